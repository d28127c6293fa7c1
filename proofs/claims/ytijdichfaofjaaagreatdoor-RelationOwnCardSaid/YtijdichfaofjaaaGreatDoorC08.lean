/- RelU, RelK, RowIn, RelI -/
import Derived.Lib.SliceRun
import Derived.OwnWalkIn
import Derived.TacticsInMore
import Derived.LoopNIn
import Derived.LoopIn
import Derived.Test.YtijdichfaofjaaaGreatDoorC07
/- turned: a relation behind turns, and the rows that are there. -/
namespace Go.Proofs.YtijdichfaofjaaaGreatDoor
open Go.RowKit Go.WideMaps
set_option linter.unusedSimpArgs false
set_option linter.unusedVariables false

structure Tn where
  off : Bool
  row : Rw
def RTn (_ : World) (cs : List Value) (t : Tn) : Prop := cs = .bool t.off :: Rw.cells t.row ∧ Rw.ok t.row
theorem RTn.stays : Stays RTn := fun _ _ _ _ _ h => h
def turnL (ar : Nat) (s : List Rw × Nat) (t : Tn) : List Rw × Nat :=
  if t.off = true then (s.1.erase t.row, s.2 + (decide (t.row ∈ s.1)).toNat) else (addL ar s.1 t.row, s.2)
def turnsL (ar : Nat) (l : List Tn) : List Rw × Nat := l.foldl (turnL ar) ([], 0)
theorem turnsL_push (ar : Nat) (l : List Tn) (t : Tn) : turnsL ar (l ++ [t]) = turnL ar (turnsL ar l) t := by simp [turnsL]
theorem turnsL_take (ar : Nat) (l : List Tn) (k : Nat) (hk : k < l.length) : turnsL ar (l.take (k + 1)) = turnL ar (turnsL ar (l.take k)) l[k] := by
  rw [List.take_succ_eq_append_getElem hk, turnsL_push]
theorem addL_len (ar : Nat) (xs : List Rw) (x : Rw) : (addL ar xs x).length ≤ xs.length + 1 := by unfold addL; split <;> simp
theorem turnL_sum (ar : Nat) (s : List Rw × Nat) (t : Tn) : (turnL ar s t).1.length + (turnL ar s t).2 ≤ s.1.length + s.2 + 1 := by
  unfold turnL
  split
  · by_cases hm : t.row ∈ s.1
    · simp [hm, List.length_erase_of_mem]
      have := List.length_pos_of_mem hm
      omega
    · simp [hm, List.erase_of_not_mem hm]
  · have := addL_len ar s.1 t.row
    simp only
    omega
theorem turnsL_sum (ar : Nat) (l : List Tn) : ∀ k, k ≤ l.length → (turnsL ar (l.take k)).1.length + (turnsL ar (l.take k)).2 ≤ k := by
  intro k
  induction k with
  | zero => intro _; simp [turnsL]
  | succ k ih =>
    intro hk
    rw [turnsL_take ar l k (by omega)]
    have := turnL_sum ar (turnsL ar (l.take k)) l[k]
    have := ih (by omega)
    omega
/-- An element of a list of turns. -/
theorem turn_at {w : World} {A : Option Addr} {n cap M : Nat} {l : List Tn} (h : SlRep 25 M RTn w (.slice A n cap) l) {k : Nat} (hk : k < l.length) :
    ∃ b off, A = some ⟨b, off, none⟩ ∧ w.cell? ⟨b, off + k * 25, none⟩ = some (.bool (l[k]).off) ∧ RowAt w b (off + k * 25 + 1) (l[k]).row := by
  obtain ⟨A1, cap1, hv, _, _, h3⟩ := h
  obtain ⟨b, off, cs, hA, hl, hc, hr, hok⟩ := h3 k _ (List.getElem?_eq_getElem hk)
  injection hv with hv _ _
  subst hr
  refine ⟨b, off, hv.trans hA, by have := hc 0 _ rfl; simpa using this, hok, fun j c hj => ?_⟩
  have := hc (j + 1) c (by simpa using hj)
  rwa [show off + (k * 25 + (j + 1)) = off + k * 25 + 1 + j by omega] at this
/-- Where the row stands among the first k; -1: nowhere. -/
def atL (xs : List Rw) (k : Nat) (x : Rw) : Int := if x ∈ xs.take k then ((xs.idxOf x : Nat) : Int) else -1
theorem atL_hit {xs : List Rw} {k : Nat} {x : Rw} (hn : xs.Nodup) (hk : k < xs.length) (he : xs[k] = x) : atL xs (k + 1) x = k := by
  unfold atL
  have h1 : x ∈ xs.take (k + 1) := by rw [List.take_succ_eq_append_getElem hk, he]; simp
  have h2 : xs.idxOf x = k := by
    have h3 : xs.idxOf x < xs.length := List.idxOf_lt_length_iff.2 (by rw [← he]; exact List.getElem_mem hk)
    have h4 : xs[xs.idxOf x] = xs[k] := by rw [List.getElem_idxOf, he]
    exact (List.getElem_inj hn).1 h4
  rw [if_pos h1, h2]
theorem atL_miss {xs : List Rw} {k : Nat} {x : Rw} (hk : k < xs.length) (he : xs[k] ≠ x) : atL xs (k + 1) x = atL xs k x := by
  unfold atL
  have h : x ∈ xs.take (k + 1) ↔ x ∈ xs.take k := by
    rw [List.take_succ_eq_append_getElem hk, List.mem_append, List.mem_singleton]
    exact ⟨fun h => h.elim id (fun h => absurd h.symm he), .inl⟩
  simp only [h]
theorem exec_append_R {P : Program} {o : Oper} {a : Act} {t e : TypeId} {B : Nat} {w : World} {v u : Value} {xs ys : List Rw} {M : Nat} (s x : Operand)
    (ho : o.op = .call { callee := .builtin .append, args := #[s, x], argTypes := #[t, t] }) (ht : P.underlying t = some (.slice e))
    (hinfo : (P.info? e).map (fun i => (i.zero, i.size, i.bytes)) = some (some (Rw.val zeroRow), 24, 96))
    (hs : a.eval s = v) (hx : a.eval x = u) (hown : OwnL 24 B e RR w v xs) (hu : SlRep 24 M RR w u ys) (hlen : xs.length + ys.length ≤ 1407374883512) (hbase : B ≤ w.heap.size) :
    ∃ v' w', (execOp a.eval o).run P w = .ok (.value v') w' ∧ OwnL 24 B e RR w' v' (xs ++ ys) ∧ w.grownBy w' v.ownBlock ∧ (v'.ownBlock = v.ownBlock ∨ v'.ownBlock = some w.heap.size) := by
  obtain ⟨v', w', hr, h2, h3, h4⟩ := run_append_R (ty := o.type) ht hinfo hown hu hlen hbase
  refine ⟨v', w', ?_, h2, h3, h4⟩
  unfold execOp
  simp only [ho, resolve, invoke, builtin, Sem.run_bind, Sem.run_pure, Result.andThen_ok, List.map_toArray, List.map_cons, List.map_nil, hs, hx, hr]

theorem exec_append_new {P : Program} {o : Oper} {a : Act} {t e : TypeId} {B : Nat} {w : World} {u : Value} {ys : List Rw} {M : Nat} (s x : Operand)
    (ho : o.op = .call { callee := .builtin .append, args := #[s, x], argTypes := #[t, t] }) (ht : P.underlying t = some (.slice e))
    (hinfo : (P.info? e).map (fun i => (i.zero, i.size, i.bytes)) = some (some (Rw.val zeroRow), 24, 96))
    (hs : a.eval s = .slice none 0 0) (hx : a.eval x = u) (hu : SlRep 24 M RR w u ys) (hlen : ys.length ≤ 1407374883512) (hbase : B ≤ w.heap.size) :
    ∃ v' w', (execOp a.eval o).run P w = .ok (.value v') w' ∧ Fut w w' ∧ OwnL 24 B e RR w' v' ys := by
  obtain ⟨v', w', hr, hO, hG, _⟩ := exec_append_R s x ho ht hinfo hs hx (OwnL.nil (B := B)) hu (by simpa using hlen) hbase
  exact ⟨v', w', hr, (Fut.refl _).grown hG (fun j h => by cases h), by simpa using hO⟩
set_option maxHeartbeats 4000000 in
set_option maxRecDepth 100000 in
theorem turned_any (ar : Nat) (har : ar ≤ 24) (v : Value) (l : List Tn) (w : World) (M : Nat) (hM : l.length ≤ 1407374883512) (h : SlRep 25 M RTn w v l) :
    Calls Tryz.prog 5 #[.int .i64 ar, v] w fun e w' => ∃ b pb mb lv rv, e = .returned (.tuple #[.pointer (some ⟨b, 0, none⟩), rv, .bool true]) ∧
      RelI w.heap.size w' b pb mb lv ar (turnsL ar l).2 (turnsL ar l).1 ∧ OwnL 24 w.heap.size 27 RR w' rv (turnsL ar l).1 ∧ (∀ k, rv.ownBlock = some k → ¬ foot b pb mb lv k) ∧ Fut w w' := by
  have H := Lib.hid h
  have hll := h.len
  obtain ⟨A, cap, rfl, hcl, hcm⟩ := h.form
  clear h
  go_enter Tryz.func5, Tryz.ntmps5
  go_wp2_with fail
  refine (new_any ar har _).mono ?_
  rintro e w1 ⟨b, pb, mb, rfl, hR, f1⟩
  have HR := Lib.hid hR
  have F1 := Lib.hid f1
  clear hR f1
  go_wp2
  go_loopw [9, 10, 11] (fun rv ad i wr => ∃ (k : Nat) (lv : Value), k ≤ l.length ∧ i = .int .i64 k ∧ ad = .int .i64 (((turnsL ar (l.take k)).1.length + (turnsL ar (l.take k)).2 : Nat) : Int) ∧
    Hid (RelI w.heap.size wr b pb mb lv ar (turnsL ar (l.take k)).2 (turnsL ar (l.take k)).1) ∧ Hid (OwnL 24 w.heap.size 27 RR wr rv (turnsL ar (l.take k)).1) ∧ Hid (∀ j, rv.ownBlock = some j → ¬ foot b pb mb lv j) ∧ Hid (Fut w wr)) (fun _ _ i _ => l.length - (intOf i).toNat)
  case atStart => exact ⟨0, _, Nat.zero_le _, rfl, rfl, HR, Lib.hid OwnL.nil, Lib.hid (fun j h => by cases h), F1⟩
  case round =>
    obtain ⟨k, lv, hk, rfl, rfl, hR, hO, hA, hF⟩ := hrel
    by_cases hlt : k < l.length
    · have hsum := turnsL_sum ar l k hk
      have hstep := turnsL_take ar l k hlt
      obtain ⟨gb, off, rfl, ct0, hrow0⟩ := turn_at H.out hlt
      have hgb : gb < w.heap.size := lt_of_cell ct0
      have ct := hF.out.cell ct0
      have hrow := hrow0.fut hF.out
      clear ct0 hrow0
      generalize hT : turnsL ar (l.take k) = T at hR hO hsum hstep
      obtain ⟨xs, gone⟩ := T
      simp only at hR hO hsum
      generalize hl0 : l[k] = t0 at ct hrow hstep
      obtain ⟨toff, row⟩ := t0
      simp only at ct hrow
      obtain ⟨wO, hwO⟩ : ∃ x, x = wr := ⟨_, rfl⟩
      subst hwO
      have e1 : (0 : Int) ≤ k ∧ (k : Int) < l.length := by omega
      obtain ⟨Ar, capr, rfl, hcr, hcr'⟩ := hO.out.rep.form
      have hok := hrow.1
      have hnd := hR.out.pl.nodup
      go_wp2
      go_loopw [12, 13] (fun at_ kk wr => ∃ m : Nat, m ≤ xs.length ∧ kk = .int .i64 m ∧ at_ = .int .i64 (atL xs m row) ∧ Hid (Fut wO wr)) (fun _ kk _ => xs.length - (intOf kk).toNat)
      case atStart => exact ⟨0, Nat.zero_le _, rfl, by simp [atL], Lib.hid (Fut.refl _)⟩
      case round =>
        obtain ⟨m, hm, rfl, rfl, hG⟩ := hrel
        by_cases hml : m < xs.length
        · obtain ⟨gr, offr, hAr, hrm⟩ := rows_at (hO.out.fut RR.stays hG.out).rep hml
          subst hAr
          have hr0 := hrow.fut hG.out
          have e2 : (0 : Int) ≤ m ∧ (m : Int) < xs.length := by omega
          go_wp2
          refine wp_graph 10 [.d, .d, .d, .d, .d, .d, .d, .d, .d, .d] (by kernel_rfl) (by kernel_rfl) (by kernel_rfl) ?_
          simp only [List.take_succ_cons, List.take_zero, List.drop_succ_cons, List.drop_zero, Exs]
          iterate 10 apply Exists.intro
          apply Run.valG (wanted_none rfl _)
          · intro w1 h1 hk
            have hg := (Fut.drew _).trans h1
            have hcw := fun b o => Below.cell (p := ⟨b, o, none⟩) h1
            go_simp; rfl
          simp only [Act.put, List.setIfInBounds_toArray, List.set_cons_succ, List.set_cons_zero, List.nil_append, List.cons_append]
          apply Run.valG (wanted_none rfl _)
          · intro w1 h1 hk
            have hg := (Fut.drew _).trans h1
            have hcw := fun b o => Below.cell (p := ⟨b, o, none⟩) h1
            go_simp; rfl
          simp only [Act.put, List.setIfInBounds_toArray, List.set_cons_succ, List.set_cons_zero, List.nil_append, List.cons_append]
          apply Run.valG (wanted_none rfl _)
          · intro w1 h1 hk
            have hg := (Fut.drew _).trans h1
            have hcw := fun b o => Below.cell (p := ⟨b, o, none⟩) h1
            go_simp; rfl
          simp only [Act.put, List.setIfInBounds_toArray, List.set_cons_succ, List.set_cons_zero, List.nil_append, List.cons_append]
          apply Run.valG (wanted_none rfl _)
          · intro w1 h1 hk
            have hg := (Fut.drew _).trans h1
            have hcw := fun b o => Below.cell (p := ⟨b, o, none⟩) h1
            exact exec_load_R rowTy _ rfl rfl (hrm.fut hg)
          simp only [Act.put, List.setIfInBounds_toArray, List.set_cons_succ, List.set_cons_zero, List.nil_append, List.cons_append]
          apply Run.valG (wanted_none rfl _)
          · intro w1 h1 hk
            have hg := (Fut.drew _).trans h1
            have hcw := fun b o => Below.cell (p := ⟨b, o, none⟩) h1
            go_simp; rfl
          simp only [Act.put, List.setIfInBounds_toArray, List.set_cons_succ, List.set_cons_zero, List.nil_append, List.cons_append]
          apply Run.valG (wanted_none rfl _)
          · intro w1 h1 hk
            have hg := (Fut.drew _).trans h1
            have hcw := fun b o => Below.cell (p := ⟨b, o, none⟩) h1
            go_simp; rfl
          simp only [Act.put, List.setIfInBounds_toArray, List.set_cons_succ, List.set_cons_zero, List.nil_append, List.cons_append]
          apply Run.valG (wanted_none rfl _)
          · intro w1 h1 hk
            have hg := (Fut.drew _).trans h1
            have hcw := fun b o => Below.cell (p := ⟨b, o, none⟩) h1
            go_simp; rfl
          simp only [Act.put, List.setIfInBounds_toArray, List.set_cons_succ, List.set_cons_zero, List.nil_append, List.cons_append]
          apply Run.valG (wanted_none rfl _)
          · intro w1 h1 hk
            have hg := (Fut.drew _).trans h1
            have hcw := fun b o => Below.cell (p := ⟨b, o, none⟩) h1
            go_simp; rfl
          simp only [Act.put, List.setIfInBounds_toArray, List.set_cons_succ, List.set_cons_zero, List.nil_append, List.cons_append]
          apply Run.valG (wanted_none rfl _)
          · intro w1 h1 hk
            have hg := (Fut.drew _).trans h1
            have hcw := fun b o => Below.cell (p := ⟨b, o, none⟩) h1
            exact exec_load_R rowTy _ rfl rfl (hr0.fut hg)
          simp only [Act.put, List.setIfInBounds_toArray, List.set_cons_succ, List.set_cons_zero, List.nil_append, List.cons_append]
          apply Run.valG (wanted_none rfl _)
          · intro w1 h1 hk
            have hg := (Fut.drew _).trans h1
            have hcw := fun b o => Below.cell (p := ⟨b, o, none⟩) h1
            exact exec_eql_R rowTy noGuard _ _ _ rfl rfl rfl hrm.1 hr0.1
          simp only [Act.put, List.setIfInBounds_toArray, List.set_cons_succ, List.set_cons_zero, List.nil_append, List.cons_append]
          apply Run.done
          intro w2 h2 hk
          clear hk
          have hG2 := Lib.hid (hG.out.trans ((Fut.drew _).trans h2))
          by_cases he : xs[m] = row
          · rw [decide_eq_true he]
            go_wp2
            go_roundw
            case rel => exact ⟨m + 1, by omega, by go_num, by rw [atL_hit hnd hml he], hG2⟩
            case measure => simp [intOf] <;> omega
          · rw [decide_eq_false he]
            go_wp2
            go_roundw
            case rel => exact ⟨m + 1, by omega, by go_num, by rw [atL_miss hml he], hG2⟩
            case measure => simp [intOf] <;> omega
        · obtain rfl : m = xs.length := by omega
          have ct2 := hG.out.cell ct
          have hr2 := hrow.fut hG.out
          have HRq := Lib.hid (hR.out.fut hG.out)
          have HOq := Lib.hid (hO.out.fut RR.stays hG.out)
          have HFq := Lib.hid (hF.out.trans hG.out)
          have hxl : xs.length < 1407374883512 := by omega
          have hgl : gone < 4611686018427387904 := by omega
          obtain ⟨wq, hwq⟩ : ∃ x, x = wr := ⟨_, rfl⟩
          subst hwq
          clear hrow ct hR hO hF hG
          have HQ1 : w.heap.size ≤ wq.heap.size := HFq.out.size
          by_cases hin : row ∈ xs
          · have hat : atL xs xs.length row = ((xs.idxOf row : Nat) : Int) := by unfold atL; rw [List.take_length, if_pos hin]
            have hil : xs.idxOf row < xs.length := List.idxOf_lt_length_iff.2 hin
            have her : xs.erase row = xs.take (xs.idxOf row) ++ xs.drop (xs.idxOf row + 1) := by
              rw [List.erase_eq_eraseIdx_of_idxOf rfl, List.eraseIdx_eq_take_drop_succ]
            rw [hat]
            generalize xs.idxOf row = m at hil her
            clear hat
            have d0 : ¬ (m : Int) < 0 := by omega
            have d1 : (0 : Int) ≤ m ∧ (m : Int) ≤ xs.length ∧ (m : Int) ≤ capr := by omega
            cases toff with
            | true =>
              go_wp2_with (first | (refine wpList_load_R rowTy (wanted_none rfl _) _ rfl rfl hr2 ?_))
              refine (remove_any HRq.out HQ1 row hok (by omega) hgl).mono ?_
              rintro e w3 ⟨rfl, lv3, hR3, hO3, hV3⟩
              have HR3 := Lib.hid hR3
              have HO3 := Lib.hid (HOq.out.onlyR hO3 hA.out)
              have F3 := Lib.hid (((Only.fut HFq.out).trans (hO3.mono (S' := fun k => w.heap.size ≤ k) fun k _ hk => HRq.out.ge k hk)).toFut fun k hk => hk)
              have hT1 : turnL ar (xs, gone) { off := true, row := row } = (xs.erase row, gone + 1) := by simp [turnL, hin]
              rw [hT1] at hstep
              clear hR3 hO3 hV3
              rw [decide_eq_true hin] at HR3 ⊢
              obtain ⟨gr, offr, rfl, _⟩ := rows_at HO3.out.rep hil
              have d3 : IntKind.i64.wrap ((m : Int) + 1) = ((m + 1 : Nat) : Int) := by rw [IntKind.wrap_i64]; omega
              have d4 : m + 1 ≤ xs.length := hil
              have d2 : (0 : Int) ≤ (m : Int) + 1 ∧ (m : Int) + 1 ≤ xs.length ∧ (m : Int) + 1 ≤ capr := by omega
              have hRep := Lib.hid (HO3.out.rep.more (M' := 9223372036854775807) (by unfold maxLen; omega))
              go_wp2_with fail
              refine wp_graph 8 [.d, .d, .d, .r (fun v w' => OwnL 24 w3.heap.size 27 RR w' v (xs.take m)), .d, .d, .d, .r (fun v w' => Rws w' v (xs.drop (m + 1)))] (by kernel_rfl) (by kernel_rfl) (by kernel_rfl) ?_
              simp only [List.take_succ_cons, List.take_zero, List.drop_succ_cons, List.drop_zero, Exs]
              iterate 6 apply Exists.intro
              apply Run.valG (wanted_none rfl _)
              · intro w1 h1 hk
                have hg := (Fut.drew _).trans h1
                have hcw := fun b o => Below.cell (p := ⟨b, o, none⟩) h1
                go_simp; rfl
              simp only [Act.put, List.setIfInBounds_toArray, List.set_cons_succ, List.set_cons_zero, List.nil_append, List.cons_append]
              apply Run.valG (wanted_none rfl _)
              · intro w1 h1 hk
                have hg := (Fut.drew _).trans h1
                have hcw := fun b o => Below.cell (p := ⟨b, o, none⟩) h1
                go_simp; rfl
              simp only [Act.put, List.setIfInBounds_toArray, List.set_cons_succ, List.set_cons_zero, List.nil_append, List.cons_append]
              apply Run.valG (wanted_none rfl _)
              · intro w1 h1 hk
                have hg := (Fut.drew _).trans h1
                have hcw := fun b o => Below.cell (p := ⟨b, o, none⟩) h1
                go_simp; rfl
              simp only [Act.put, List.setIfInBounds_toArray, List.set_cons_succ, List.set_cons_zero, List.nil_append, List.cons_append]
              apply Run.valR (wanted_none rfl _) (by intro v w w' hf hs; exact hs.fut RR.stays hf)
              · intro w1 h1 hk
                have hg := (Fut.drew _).trans h1
                exact exec_append_new _ _ rfl Tryz.underlying30 infoR rfl rfl ((rws_take hRep.out (Nat.le_of_lt hil)).fut RR.stays hg) (by simp; omega) hg.size
              intro v3
              simp only [Act.put, List.setIfInBounds_toArray, List.set_cons_succ, List.set_cons_zero, List.nil_append, List.cons_append]
              apply Run.valG (wanted_none rfl _)
              · intro w1 h1 hk
                have hg := (Fut.drew _).trans h1
                have hcw := fun b o => Below.cell (p := ⟨b, o, none⟩) h1
                go_simp; rfl
              simp only [Act.put, List.setIfInBounds_toArray, List.set_cons_succ, List.set_cons_zero, List.nil_append, List.cons_append]
              apply Run.valG (wanted_none rfl _)
              · intro w1 h1 hk
                have hg := (Fut.drew _).trans h1
                have hcw := fun b o => Below.cell (p := ⟨b, o, none⟩) h1
                go_simp; rfl
              simp only [Act.put, List.setIfInBounds_toArray, List.set_cons_succ, List.set_cons_zero, List.nil_append, List.cons_append]
              apply Run.valG (wanted_none rfl _)
              · intro w1 h1 hk
                have hg := (Fut.drew _).trans h1
                have hcw := fun b o => Below.cell (p := ⟨b, o, none⟩) h1
                go_simp; rfl
              simp only [Act.put, List.setIfInBounds_toArray, List.set_cons_succ, List.set_cons_zero, List.nil_append, List.cons_append]
              apply Run.valR (wanted_none rfl _) (by intro v w w' hf hs; exact hs.fut RR.stays hf)
              · intro w1 h1 hk
                have hg := (Fut.drew _).trans h1
                exact ⟨_, _, (by go_simp <;> rfl), Fut.refl _, (rws_drop' hRep.out d4).fut RR.stays hg⟩
              intro v7
              simp only [Act.put, List.setIfInBounds_toArray, List.set_cons_succ, List.set_cons_zero, List.nil_append, List.cons_append]
              apply Run.done
              intro w4 h4 hk
              obtain ⟨f3, f7, _⟩ := hk
              have h4' := (Fut.drew w3).trans h4
              have h4s := h4'.size
              have hlen5 : (xs.take m).length + (xs.drop (m + 1)).length ≤ 1407374883512 := by simp; omega
              go_wp2_with (first | (refine wpList_append_R (wanted_none rfl _) _ _ rfl Tryz.underlying30 infoR rfl rfl f3 f7 hlen5 h4s ?_; intro v5 w5 hO5 hG5 hB5))
              have F5 := h4'.grown hG5 (fun j hj => (f3.block j hj).1)
              rw [← her] at hO5
              go_roundw
              case rel =>
                refine ⟨k + 1, lv3, by omega, by go_num, ?_, Lib.hid ?_, Lib.hid ?_, Lib.hid fun j hj hf => ?_, Lib.hid (F3.out.trans F5)⟩
                · rw [hstep]
                  simp only [List.length_erase_of_mem hin]
                  have := List.length_pos_of_mem hin
                  congr 1; omega
                · rw [hstep]; exact HR3.out.fut F5
                · rw [hstep]; exact hO5.base (by have := F3.out.size; omega)
                · have := HR3.out.lt j hf
                  have := (hO5.block j hj).1
                  omega
              case measure => simp [intOf] <;> omega
            | false =>
              obtain ⟨rp, hR⟩ : ∃ r, rightP ar row = r := ⟨_, rfl⟩
              cases rp with
              | true =>
                have v1 : (rightP ar row && !decide (row ∈ xs)) = false := by rw [decide_eq_true hin]; simp
                have v2 : rowErr (rightP ar row) = 0 := by rw [hR]; rfl
                go_wp2_with (first | (refine wpList_load_R rowTy (wanted_none rfl _) _ rfl rfl hr2 ?_))
                refine (right10_any ar row hok _).mono ?_
                rintro e w3 ⟨rfl, f3⟩
                rw [hR]
                have hr3 := hr2.fut f3
                have ct3 := f3.cell ct2
                have hs3 := f3.size
                go_wp2_with (first | (refine wpList_load_R rowTy (wanted_none rfl _) _ rfl rfl hr3 ?_))
                refine (add_any (HRq.out.fut f3) (by omega) row hok hxl).mono ?_
                rintro e w4 ⟨rfl, lv4, hR4, hO4, hV4⟩
                rw [v1, v2]
                have HA4 := Lib.hid (fun j (hj : (Value.slice Ar xs.length capr).ownBlock = some j) (hf : foot b pb mb lv4 j) => (by
                  have h1 := hA.out j hj
                  rcases hf with h | h | h | h
                  · exact h1 (.inl h)
                  · exact h1 (.inr (.inl h))
                  · exact h1 (.inr (.inr (.inl h)))
                  · rcases hV4 j h with h' | h'
                    · exact h1 (.inr h')
                    · have := (HOq.out.block j hj).2; omega : False))
                have HO4 := Lib.hid ((HOq.out.fut RR.stays f3).onlyR hO4 (fun j hj hf => hA.out j hj (.inr hf)))
                have F4 := Lib.hid (((Only.fut (HFq.out.trans f3)).trans (hO4.mono (S' := fun k => w.heap.size ≤ k) fun k _ hk => HRq.out.pl.ge k hk)).toFut fun k hk => hk)
                have HR4 := Lib.hid hR4
                have hs4 := hO4.size
                have ha1 : addL ar xs row = xs := by unfold addL; rw [v1]; rfl
                have hT1 : turnL ar (xs, gone) { off := false, row := row } = (xs, gone) := by simp [turnL, ha1]
                rw [hT1] at hstep
                rw [ha1] at HR4
                clear hR4 hO4 hV4
                go_wp2
                go_roundw
                case rel => exact ⟨k + 1, lv4, by omega, by go_num, by rw [hstep]; rfl, Lib.hid (by rw [hstep]; exact HR4.out), Lib.hid (by rw [hstep]; exact HO4.out), HA4, F4⟩
                case measure => simp [intOf] <;> omega
              | false =>
                have v1 : (rightP ar row && !decide (row ∈ xs)) = false := by rw [decide_eq_true hin]; simp
                have v2 : rowErr (rightP ar row) = 100 := by rw [hR]; rfl
                go_wp2_with (first | (refine wpList_load_R rowTy (wanted_none rfl _) _ rfl rfl hr2 ?_))
                refine (right10_any ar row hok _).mono ?_
                rintro e w3 ⟨rfl, f3⟩
                rw [hR]
                have hr3 := hr2.fut f3
                have ct3 := f3.cell ct2
                have hs3 := f3.size
                go_wp2_with (first | (refine wpList_load_R rowTy (wanted_none rfl _) _ rfl rfl hr3 ?_))
                refine (add_any (HRq.out.fut f3) (by omega) row hok hxl).mono ?_
                rintro e w4 ⟨rfl, lv4, hR4, hO4, hV4⟩
                rw [v1, v2]
                have HA4 := Lib.hid (fun j (hj : (Value.slice Ar xs.length capr).ownBlock = some j) (hf : foot b pb mb lv4 j) => (by
                  have h1 := hA.out j hj
                  rcases hf with h | h | h | h
                  · exact h1 (.inl h)
                  · exact h1 (.inr (.inl h))
                  · exact h1 (.inr (.inr (.inl h)))
                  · rcases hV4 j h with h' | h'
                    · exact h1 (.inr h')
                    · have := (HOq.out.block j hj).2; omega : False))
                have HO4 := Lib.hid ((HOq.out.fut RR.stays f3).onlyR hO4 (fun j hj hf => hA.out j hj (.inr hf)))
                have F4 := Lib.hid (((Only.fut (HFq.out.trans f3)).trans (hO4.mono (S' := fun k => w.heap.size ≤ k) fun k _ hk => HRq.out.pl.ge k hk)).toFut fun k hk => hk)
                have HR4 := Lib.hid hR4
                have hs4 := hO4.size
                have ha1 : addL ar xs row = xs := by unfold addL; rw [v1]; rfl
                have hT1 : turnL ar (xs, gone) { off := false, row := row } = (xs, gone) := by simp [turnL, ha1]
                rw [hT1] at hstep
                rw [ha1] at HR4
                clear hR4 hO4 hV4
                go_wp2
                go_roundw
                case rel => exact ⟨k + 1, lv4, by omega, by go_num, by rw [hstep]; rfl, Lib.hid (by rw [hstep]; exact HR4.out), Lib.hid (by rw [hstep]; exact HO4.out), HA4, F4⟩
                case measure => simp [intOf] <;> omega
          · have hat : atL xs xs.length row = -1 := by unfold atL; rw [List.take_length, if_neg hin]
            rw [hat]
            clear hat
            cases toff with
            | true =>
              go_wp2_with (first | (refine wpList_load_R rowTy (wanted_none rfl _) _ rfl rfl hr2 ?_))
              refine (remove_any HRq.out HQ1 row hok (by omega) hgl).mono ?_
              rintro e w3 ⟨rfl, lv3, hR3, hO3, hV3⟩
              have HR3 := Lib.hid hR3
              have HO3 := Lib.hid (HOq.out.onlyR hO3 hA.out)
              have F3 := Lib.hid (((Only.fut HFq.out).trans (hO3.mono (S' := fun k => w.heap.size ≤ k) fun k _ hk => HRq.out.ge k hk)).toFut fun k hk => hk)
              have hT1 : turnL ar (xs, gone) { off := true, row := row } = (xs.erase row, gone + 0) := by simp [turnL, hin]
              rw [hT1] at hstep
              have HV3 := Lib.hid hV3
              clear hR3 hO3 hV3
              rw [decide_eq_false hin] at HR3 ⊢
              rw [List.erase_of_not_mem hin] at HR3 hstep
              go_wp2
              go_roundw
              case rel =>
                refine ⟨k + 1, lv3, by omega, by go_num, ?_, Lib.hid ?_, Lib.hid ?_, Lib.hid fun j hj hf => ?_, F3⟩
                · rw [hstep]; rfl
                · rw [hstep]; exact HR3.out
                · rw [hstep]; exact HO3.out
                · have h1 := hA.out j hj
                  rcases hf with h | h | h | h
                  · exact h1 (.inl h)
                  · exact h1 (.inr (.inl h))
                  · exact h1 (.inr (.inr (.inl h)))
                  · rcases HV3.out j h with h' | h'
                    · exact h1 (.inr h')
                    · have := (HOq.out.block j hj).2; omega
              case measure => simp [intOf] <;> omega
            | false =>
              obtain ⟨rp, hR⟩ : ∃ r, rightP ar row = r := ⟨_, rfl⟩
              cases rp with
              | true =>
                have v1 : (rightP ar row && !decide (row ∈ xs)) = true := by rw [decide_eq_false hin, hR]; rfl
                have v2 : rowErr (rightP ar row) = 0 := by rw [hR]; rfl
                go_wp2_with (first | (refine wpList_load_R rowTy (wanted_none rfl _) _ rfl rfl hr2 ?_))
                refine (right10_any ar row hok _).mono ?_
                rintro e w3 ⟨rfl, f3⟩
                rw [hR]
                have hr3 := hr2.fut f3
                have ct3 := f3.cell ct2
                have hs3 := f3.size
                go_wp2_with (first | (refine wpList_load_R rowTy (wanted_none rfl _) _ rfl rfl hr3 ?_))
                refine (add_any (HRq.out.fut f3) (by omega) row hok hxl).mono ?_
                rintro e w4 ⟨rfl, lv4, hR4, hO4, hV4⟩
                rw [v1, v2]
                have HA4 := Lib.hid (fun j (hj : (Value.slice Ar xs.length capr).ownBlock = some j) (hf : foot b pb mb lv4 j) => (by
                  have h1 := hA.out j hj
                  rcases hf with h | h | h | h
                  · exact h1 (.inl h)
                  · exact h1 (.inr (.inl h))
                  · exact h1 (.inr (.inr (.inl h)))
                  · rcases hV4 j h with h' | h'
                    · exact h1 (.inr h')
                    · have := (HOq.out.block j hj).2; omega : False))
                have HO4 := Lib.hid ((HOq.out.fut RR.stays f3).onlyR hO4 (fun j hj hf => hA.out j hj (.inr hf)))
                have F4 := Lib.hid (((Only.fut (HFq.out.trans f3)).trans (hO4.mono (S' := fun k => w.heap.size ≤ k) fun k _ hk => HRq.out.pl.ge k hk)).toFut fun k hk => hk)
                have HR4 := Lib.hid hR4
                have hs4 := hO4.size
                have ha1 : addL ar xs row = xs ++ [row] := by unfold addL; rw [v1]; rfl
                have hT1 : turnL ar (xs, gone) { off := false, row := row } = (xs ++ [row], gone) := by simp [turnL, ha1]
                rw [hT1] at hstep
                rw [ha1] at HR4
                have hr4 := hr3.only hO4 (fun hf => by have := HRq.out.pl.ge gb hf; omega)
                clear hR4 hO4 hV4
                have e5 : IntKind.i64.wrap (((xs.length + gone : Nat) : Int) + 1) = ((xs.length + gone + 1 : Nat) : Int) := by rw [IntKind.wrap_i64]; omega
                have e6 : IntKind.i64.wrap ((xs.length : Int) + gone + 1) = ((xs.length + gone + 1 : Nat) : Int) := by rw [IntKind.wrap_i64]; omega
                have hOa := HO4.out.fut RR.stays (Fut.alloc w4 (.cells (Rw.cells row).toArray 27))
                have hRo := rowOne w4 27 hok
                have hBa : w.heap.size ≤ (w4.alloc (.cells (Rw.cells row).toArray 27)).heap.size := by simp; omega
                have hLa : xs.length + [row].length ≤ 1407374883512 := by simp; omega
                go_wp2_with (first | (refine wpList_load_R rowTy (wanted_none rfl _) _ rfl rfl hr4 ?_) | (refine wpList_of_run (wanted_none rfl _) (exec_one_R rowTy zeroR Tryz.underlying30 _ rfl rfl hok) ?_) | (refine wpList_append_R (wanted_none rfl _) _ _ rfl Tryz.underlying30 infoR rfl rfl hOa hRo hLa hBa ?_; intro v6 w6 hO6 hG6 hB6))
                go_roundw
                case rel =>
                  have fa := Fut.alloc w4 (.cells (Rw.cells row).toArray 27)
                  have O6 : Only (fun j => (Value.slice Ar xs.length capr).ownBlock = some j) w4 w6 := (Only.fut fa).trans (Only.grown hG6 (fun j hj => hj))
                  refine ⟨k + 1, lv4, by omega, by go_num, ?_, Lib.hid ?_, Lib.hid ?_, Lib.hid fun j hj hf => ?_, Lib.hid (((Only.fut F4.out).trans (O6.mono (S' := fun k => w.heap.size ≤ k) fun j _ hj => (HO4.out.block j hj).1)).toFut fun k hk => hk)⟩
                  · rw [hstep]
                    simp only [List.length_append, List.length_cons, List.length_nil]
                    first | rfl | (congr 1; omega)
                  · rw [hstep]; exact HR4.out.only O6 (fun j hf hj => HA4.out j hj hf)
                  · rw [hstep]; exact hO6
                  · rcases hB6 with h | h
                    · exact HA4.out j (h ▸ hj) hf
                    · rw [h] at hj; cases hj
                      have := HR4.out.lt _ hf
                      simp at this; omega
                case measure => simp [intOf] <;> omega
              | false =>
                have v1 : (rightP ar row && !decide (row ∈ xs)) = false := by rw [decide_eq_false hin, hR]; rfl
                have v2 : rowErr (rightP ar row) = 100 := by rw [hR]; rfl
                go_wp2_with (first | (refine wpList_load_R rowTy (wanted_none rfl _) _ rfl rfl hr2 ?_))
                refine (right10_any ar row hok _).mono ?_
                rintro e w3 ⟨rfl, f3⟩
                rw [hR]
                have hr3 := hr2.fut f3
                have ct3 := f3.cell ct2
                have hs3 := f3.size
                go_wp2_with (first | (refine wpList_load_R rowTy (wanted_none rfl _) _ rfl rfl hr3 ?_))
                refine (add_any (HRq.out.fut f3) (by omega) row hok hxl).mono ?_
                rintro e w4 ⟨rfl, lv4, hR4, hO4, hV4⟩
                rw [v1, v2]
                have HA4 := Lib.hid (fun j (hj : (Value.slice Ar xs.length capr).ownBlock = some j) (hf : foot b pb mb lv4 j) => (by
                  have h1 := hA.out j hj
                  rcases hf with h | h | h | h
                  · exact h1 (.inl h)
                  · exact h1 (.inr (.inl h))
                  · exact h1 (.inr (.inr (.inl h)))
                  · rcases hV4 j h with h' | h'
                    · exact h1 (.inr h')
                    · have := (HOq.out.block j hj).2; omega : False))
                have HO4 := Lib.hid ((HOq.out.fut RR.stays f3).onlyR hO4 (fun j hj hf => hA.out j hj (.inr hf)))
                have F4 := Lib.hid (((Only.fut (HFq.out.trans f3)).trans (hO4.mono (S' := fun k => w.heap.size ≤ k) fun k _ hk => HRq.out.pl.ge k hk)).toFut fun k hk => hk)
                have HR4 := Lib.hid hR4
                have hs4 := hO4.size
                have ha1 : addL ar xs row = xs := by unfold addL; rw [v1]; rfl
                have hT1 : turnL ar (xs, gone) { off := false, row := row } = (xs, gone) := by simp [turnL, ha1]
                rw [hT1] at hstep
                rw [ha1] at HR4
                clear hR4 hO4 hV4
                go_wp2
                go_roundw
                case rel => exact ⟨k + 1, lv4, by omega, by go_num, by rw [hstep]; rfl, Lib.hid (by rw [hstep]; exact HR4.out), Lib.hid (by rw [hstep]; exact HO4.out), HA4, F4⟩
                case measure => simp [intOf] <;> omega
    · obtain rfl : k = l.length := by omega
      rw [List.take_length] at hR hO ⊢
      generalize hT : turnsL ar l = T at hR hO
      obtain ⟨xs, gone⟩ := T
      simp only at hR hO
      have hsum := turnsL_sum ar l l.length (Nat.le_refl _)
      rw [List.take_length, hT] at hsum
      simp only at hsum
      obtain ⟨Ar, capr, rfl, hcr, hcr'⟩ := hO.out.rep.form
      have e6 : IntKind.i64.wrap ((xs.length : Int) + gone) = ((xs.length + gone : Nat) : Int) := by rw [IntKind.wrap_i64]; omega
      go_wp2_with fail
      refine (len_any hR.out).mono ?_
      rintro e w6 ⟨rfl, hw6⟩
      have hw6' := hw6.symm
      subst hw6'
      go_wp2_with fail
      refine (len_any hR.out).mono ?_
      rintro e w6 ⟨rfl, hw6⟩
      have hw6' := hw6.symm
      subst hw6'
      go_wp2_with fail
      refine (gone_any hR.out).mono ?_
      rintro e w6 ⟨rfl, hw6⟩
      have hw6' := hw6.symm
      subst hw6'
      go_wp2
      go_ret3
      rw [hT]
      exact ⟨b, pb, mb, lv, _, rfl, hR.out, hO.out, hA.out, hF.out⟩
end Go.Proofs.YtijdichfaofjaaaGreatDoor
/- slices.Clone of rows; Range: its iterator. -/
namespace Go.Proofs.YtijdichfaofjaaaGreatDoor
open Go.RowKit Go.WideMaps
set_option linter.unusedSimpArgs false
set_option linter.unusedVariables false

theorem SlRep.empty0 {α : Type} {sz M : Nat} {R : World → List Value → α → Prop} {w : World} {n cap : Nat} {xs : List α} (h : SlRep sz M R w (.slice none n cap) xs) : xs = [] := by
  obtain ⟨A, cap', hv, _, _, hx⟩ := h
  cases xs with
  | nil => rfl
  | cons y r =>
    obtain ⟨_, _, _, hA, _⟩ := hx 0 y rfl
    injection hv with e1
    rw [← e1] at hA; cases hA
theorem own_made0 {B : Nat} {e : TypeId} (w : World) (hB : B ≤ w.heap.size) : OwnL 24 B e RR (w.alloc (.cells #[] e)) (.slice (some ⟨w.heap.size, 0, none⟩) 0 0) [] :=
  ⟨[], rfl, fun i cs x hi => by simp at hi, World.ownsRow_made w #[] 0 hB (Nat.zero_le _) (by simp)⟩
set_option maxHeartbeats 800000 in
set_option maxRecDepth 100000 in
theorem clone_R (v : Value) (xs : List Rw) (w : World) (h : Rws w v xs) (hl : xs.length ≤ 1407374883512) :
    Calls Tryz.prog 71 #[v] w fun e w' => ∃ u, e = .returned u ∧ OwnL 24 w.heap.size 27 RR w' u xs ∧ Fut w w' := by
  have H := Lib.hid h
  obtain ⟨A, cap, rfl, hc1, hc2⟩ := h.form
  clear h
  have q22 : ∀ (w : World) (a : Option Addr) (n c n' c' : Nat), (binOp .eql 30 (.slice a n c) (.slice none n' c')).run Tryz.prog w = .ok (.bool a.isNone) w := fun w a n c n' c' => Lib.run_eql_slice_nil w _ _ a n c n' c' Tryz.underlying30
  cases A with
  | none =>
    have hx := H.out.empty0
    subst hx
    go_enter Tryz.func71, Tryz.ntmps71
    go_wp2
    go_ret
    exact ⟨_, rfl, OwnL.nil, Fut.refl _⟩
  | some a =>
    go_enter Tryz.func71, Tryz.ntmps71
    have hO := own_made0 (e := 27) w (Nat.le_refl _)
    have hu := H.out.fut RR.stays (Fut.alloc w (.cells #[] 27))
    have hs : w.heap.size ≤ (w.alloc (.cells #[] 27)).heap.size := by simp
    go_wp2_with (first | (refine wpList_append_R (wanted_none rfl _) _ _ rfl Tryz.underlying30 infoR rfl rfl hO hu (by simpa using hl) hs ?_; intro v7 w7 hO7 hG7 hB7))
    go_ret
    refine ⟨_, rfl, hO7, (Fut.alloc w (.cells #[] 27)).grown hG7 fun j hj => ?_⟩
    cases hj; exact Nat.le_refl _
end Go.Proofs.YtijdichfaofjaaaGreatDoor
/- Rows read, written, appended within a fence that lets everything in (an iterator's own body; a round). No program. -/
namespace Go.Proofs.YtijdichfaofjaaaGreatDoor
open Go.RowKit Go.WideMaps
set_option linter.unusedSimpArgs false
set_option linter.unusedVariables false

section
variable {F : Fence} {n : Nat} {P : Program} {k e : TypeId} {w : World} {b off : Nat} {r : Rw} {o : Oper} {a : Act} {ops : Array Oper} {rest : List Oper} {Q : Exit → Act → World → Prop}
theorem semAt_plain (hnd : ∀ c, o.op ≠ .defer c) (ro : Option Nat) (ρ : Operand → Value) : Oper.semAt ro ρ o = execOp ρ o := by
  cases ro with
  | none => rfl
  | some l => exact Oper.semAt_some l ρ o hnd
theorem wpListIn_of_run (hF : ∀ f, F.fn f) {v : Value} {w' : World} (hnd : ∀ c, o.op ≠ .defer c) (hgd : Region.wanted o (yielded ops a.tmps) = true)
    (hrun : (execOp a.eval o).run P w = .ok (.value v) w') (h : wpListIn F n P ops Q rest (a.put o.dst v) w') : wpListIn F n P ops Q (o :: rest) a w := by
  refine wpListIn_step fun K hK => ?_
  rw [if_pos hgd]
  unfold Oper.wpIn
  refine ⟨fun f _ => hF f, ?_⟩
  rw [semAt_plain hnd, hrun]
  exact hK _ _ h
theorem wpListIn_of_skip (hF : ∀ f, F.fn f) {w' : World} (hnd : ∀ c, o.op ≠ .defer c) (hgd : Region.wanted o (yielded ops a.tmps) = true)
    (hrun : (execOp a.eval o).run P w = .ok .skip w') (h : wpListIn F n P ops Q rest (a.put o.dst undef) w') : wpListIn F n P ops Q (o :: rest) a w := by
  refine wpListIn_step fun K hK => ?_
  rw [if_pos hgd]
  unfold Oper.wpIn
  refine ⟨fun f _ => hF f, ?_⟩
  rw [semAt_plain hnd, hrun]
  exact hK _ _ h
theorem wpListIn_load_R (hF : ∀ f, F.fn f) (T : RowTy P k e) (hgd : Region.wanted o (yielded ops a.tmps) = true) (x : Operand) (ho : o.op = .load k x) (hx : a.eval x = .pointer (some ⟨b, off, none⟩)) (hr : RowAt w b off r)
    (h : wpListIn F n P ops Q rest (a.put o.dst (Rw.val r)) w) : wpListIn F n P ops Q (o :: rest) a w :=
  wpListIn_of_run hF (fun c h => by rw [ho] at h; cases h) hgd (exec_load_R T x ho hx hr) h
theorem wpListIn_store_new (hF : ∀ f, F.fn f) (T : RowTy P k e) (hgd : Region.wanted o (yielded ops a.tmps) = true) {t : TypeId} {arr : Array Value} (x y : Operand) (ho : o.op = .store k x y) (hx : a.eval x = .pointer (some ⟨w.heap.size, 0, none⟩)) (hy : a.eval y = Rw.val r) (hs : arr.size = 24) (hr : Rw.ok r)
    (h : wpListIn F n P ops Q rest (a.put o.dst undef) (w.alloc (.cells (Rw.cells r).toArray t))) : wpListIn F n P ops Q (o :: rest) a (w.alloc (.cells arr t)) := by
  refine wpListIn_of_skip hF (fun c h => by rw [ho] at h; cases h) hgd (exec_store_R T x y ho hx hy (heap_alloc_new w _) hs hr) ?_
  rw [putObj_alloc]; exact h
end
theorem wide_fn : ∀ f, Fence.wide.fn f := fun _ => trivial
theorem round_fn (l : Nat) : ∀ f, (Fence.wide.inRound l).fn f := fun _ => trivial
end Go.Proofs.YtijdichfaofjaaaGreatDoor
/- Range, and its iterator. -/
namespace Go.Proofs.YtijdichfaofjaaaGreatDoor
open Go.RowKit Go.WideMaps
set_option linter.unusedSimpArgs false
set_option linter.unusedVariables false

theorem OwnL.blkR {B : Nat} {e : TypeId} {w w' : World} {v : Value} {ys : List Rw} (h : OwnL 24 B e RR w v ys) (hb : ∀ j, v.ownBlock = some j → w'.heap[j]? = w.heap[j]?) : OwnL 24 B e RR w' v ys := by
  obtain ⟨css, h1, h2, h3, h4⟩ := h
  refine ⟨css, h1, fun i cs x hi hx => h2 i cs x hi hx, h3, ?_⟩
  rcases h4 with h4 | ⟨g, cap, cur, a1, a2, a3, a4⟩
  · exact .inl h4
  · exact .inr ⟨g, cap, cur, a1, a2, (hb g (by rw [a1]; rfl)).trans a3, a4⟩
/-- What an iterator over a span has captured. -/
def SeqAt (w : World) (lb : Array Value) (p : Value) (from_ to_ : Int) : Prop :=
  ∃ b1 b2 b3, lb = #[.pointer (some ⟨b1, 0, none⟩), .pointer (some ⟨b2, 0, none⟩), .pointer (some ⟨b3, 0, none⟩)] ∧ w.cell? ⟨b1, 0, none⟩ = some p ∧ w.cell? ⟨b2, 0, none⟩ = some (.int .i64 from_) ∧ w.cell? ⟨b3, 0, none⟩ = some (.int .i64 to_)
theorem SeqAt.fut {w w' : World} {lb : Array Value} {p : Value} {f t : Int} (h : SeqAt w lb p f t) (hf : Fut w w') : SeqAt w' lb p f t := by
  obtain ⟨b1, b2, b3, h1, h2, h3, h4⟩ := h
  exact ⟨b1, b2, b3, h1, hf.cell h2, hf.cell h3, hf.cell h4⟩
set_option maxHeartbeats 400000 in
set_option maxRecDepth 100000 in
theorem range_any (p : Option Addr) (f t : Int) (w : World) :
    Calls Tryz.prog 24 #[.pointer p, .int .i64 f, .int .i64 t] w fun e w' => ∃ lb, e = .returned (.func (.func 70) #[] lb) ∧ SeqAt w' lb (.pointer p) f t ∧ Fut w w' := by
  have f1 := Fut.alloc w (.cells #[Value.pointer p] 29)
  have c1 := cell_at (heap_alloc_new w (.cells #[Value.pointer p] 29)) 0 _ rfl
  have f2 := Fut.alloc (w.alloc (.cells #[Value.pointer p] 29)) (.cells #[Value.int .i64 f] 3)
  have c2 := cell_at (heap_alloc_new (w.alloc (.cells #[Value.pointer p] 29)) (.cells #[Value.int .i64 f] 3)) 0 _ rfl
  have f3 := Fut.alloc ((w.alloc (.cells #[Value.pointer p] 29)).alloc (.cells #[Value.int .i64 f] 3)) (.cells #[Value.int .i64 t] 3)
  have c3 := cell_at (heap_alloc_new ((w.alloc (.cells #[Value.pointer p] 29)).alloc (.cells #[Value.int .i64 f] 3)) (.cells #[Value.int .i64 t] 3)) 0 _ rfl
  rw [World.size_alloc] at c2
  rw [World.size_alloc, World.size_alloc] at c3
  go_enter Tryz.func24, Tryz.ntmps24
  go_wp2
  go_ret
  exact ⟨_, rfl, ⟨_, _, _, rfl, f3.cell (f2.cell c1), f3.cell c2, c3⟩, (f1.trans f2).trans f3⟩

def loS (f : Int) : Nat := f.toNat
def hiS (xs : List Rw) (t : Int) : Nat := min t.toNat xs.length
def spanArgs (xs : List Rw) (f : Int) (k : Nat) : Array Value := #[.int .i64 ((loS f : Int) + (k : Int)), Rw.val (xs.getD (loS f + k) zeroRow)]
attribute [local go_sem] Oper.semAt_some
set_option maxHeartbeats 1600000 in
set_option maxRecDepth 100000 in
theorem range_iter {B : Nat} {w : World} {b pb mb : Nat} {lv : Value} {ar gone : Nat} {xs : List Rw} (h : RelI B w b pb mb lv ar gone xs) (hl : xs.length ≤ 1407374883512) (f t : Int) (lb : Array Value) (hs : SeqAt w lb (.pointer (some ⟨b, 0, none⟩)) f t) :
    IterAt Tryz.prog 70 lb (hiS xs t - loS f) (spanArgs xs f) w := by
  intro l J Jx h0 hst hY
  obtain ⟨b1, b2, b3, rfl, c1, c2, c3⟩ := hs
  have HR := Lib.hid h
  have H0 := Lib.hid h0
  have HST := Lib.hid hst
  have HY := Lib.hid hY
  clear h h0 hst hY
  refine (callsIn_wide (n := 3)).1 ?_
  refine callsIn_of_wp Tryz.func70 rfl trivial ?_ rfl
  simp only [Tryz.ntmps70, List.size_toArray, List.length_cons, List.length_nil, Nat.reduceAdd, Nat.reduceSub, Array.replicate_succ, Array.replicate_zero, List.push_toArray, List.append_toArray, List.nil_append, List.cons_append]
  gi_wp2_with fail
  refine ⟨trivial, (callsIn_wide.2 (len_any HR.out)).mono ?_⟩
  rintro e w1 ⟨rfl, hw1⟩
  have hw2 := hw1.symm
  subst hw2
  gi_wp2_with fail
  refine wpIn_wide.2 ?_
  refine wp_graph 7 [.d, .d, .d, .d, .d, .d, .d] (by kernel_rfl) (by kernel_rfl) (by kernel_rfl) ?_
  simp only [List.take_succ_cons, List.take_zero, List.drop_succ_cons, List.drop_zero, Exs]
  iterate 7 apply Exists.intro
  apply Run.valG (wanted_none rfl _)
  · intro w1 h1 hk
    have q2 := h1.cell c2; have q3 := h1.cell c3
    have hcw := fun b o => Below.cell (p := ⟨b, o, none⟩) h1
    go_simp; rfl
  simp only [Act.put, List.setIfInBounds_toArray, List.set_cons_succ, List.set_cons_zero, List.nil_append, List.cons_append]
  apply Run.valG (wanted_none rfl _)
  · intro w1 h1 hk
    have q2 := h1.cell c2; have q3 := h1.cell c3
    have hcw := fun b o => Below.cell (p := ⟨b, o, none⟩) h1
    go_simp; rfl
  simp only [Act.put, List.setIfInBounds_toArray, List.set_cons_succ, List.set_cons_zero, List.nil_append, List.cons_append]
  apply Run.valG (wanted_none rfl _)
  · intro w1 h1 hk
    have q2 := h1.cell c2; have q3 := h1.cell c3
    have hcw := fun b o => Below.cell (p := ⟨b, o, none⟩) h1
    go_simp; rfl
  simp only [Act.put, List.setIfInBounds_toArray, List.set_cons_succ, List.set_cons_zero, List.nil_append, List.cons_append]
  apply Run.valG (wanted_none rfl _)
  · intro w1 h1 hk
    have q2 := h1.cell c2; have q3 := h1.cell c3
    have hcw := fun b o => Below.cell (p := ⟨b, o, none⟩) h1
    go_simp; rfl
  simp only [Act.put, List.setIfInBounds_toArray, List.set_cons_succ, List.set_cons_zero, List.nil_append, List.cons_append]
  apply Run.valG (wanted_none rfl _)
  · intro w1 h1 hk
    have q2 := h1.cell c2; have q3 := h1.cell c3
    have hcw := fun b o => Below.cell (p := ⟨b, o, none⟩) h1
    go_simp; rfl
  simp only [Act.put, List.setIfInBounds_toArray, List.set_cons_succ, List.set_cons_zero, List.nil_append, List.cons_append]
  apply Run.valG (wanted_none rfl _)
  · intro w1 h1 hk
    have q2 := h1.cell c2; have q3 := h1.cell c3
    have hcw := fun b o => Below.cell (p := ⟨b, o, none⟩) h1
    go_simp; rfl
  simp only [Act.put, List.setIfInBounds_toArray, List.set_cons_succ, List.set_cons_zero, List.nil_append, List.cons_append]
  apply Run.valG (wanted_none rfl _)
  · intro w1 h1 hk
    have q2 := h1.cell c2; have q3 := h1.cell c3
    have hcw := fun b o => Below.cell (p := ⟨b, o, none⟩) h1
    go_simp; rfl
  simp only [Act.put, List.setIfInBounds_toArray, List.set_cons_succ, List.set_cons_zero, List.nil_append, List.cons_append]
  apply Run.done
  intro w2 h2 hk
  clear hk
  have F2 := (Fut.drew w).trans h2
  rw [show (if f < 0 then 0 else f) = ((loS f : Nat) : Int) from by unfold loS; split <;> omega]
  by_cases hab : loS f < hiS xs t
  · rw [show (if (xs.length : Int) < t then (xs.length : Int) else t) = ((hiS xs t : Nat) : Int) from by unfold hiS at hab ⊢; split <;> omega]
    have hhi : hiS xs t ≤ xs.length := Nat.min_le_right _ _
    obtain ⟨hi, hhi0⟩ : ∃ hi, hiS xs t = hi := ⟨_, rfl⟩
    obtain ⟨lo, hlo⟩ : ∃ lo, loS f = lo := ⟨_, rfl⟩
    rw [hhi0] at hab hhi ⊢
    rw [hlo] at hab ⊢
    have d1 : ¬ (hi : Int) ≤ lo := by omega
    have d2 : ¬ hi ≤ lo := by omega
    obtain ⟨A, cap, rfl, hcl, hcm⟩ := HR.out.pl.form
    obtain ⟨gb, off, rfl, _⟩ := rows_at HR.out.pl.list.rep (show lo < xs.length by omega)
    have HR2 := Lib.hid (HR.out.fut F2)
    have k1 := F2.cell c1
    have k2 := cell_at HR2.out.blk 2 _ rfl
    have k0 := cell_at HR2.out.pl.blk 0 _ rfl
    have hRep := Lib.hid (HR2.out.pl.list.rep.more (M' := 9223372036854775807) (by unfold maxLen; omega))
    have d3 : (0 : Int) ≤ lo ∧ (lo : Int) ≤ hi ∧ (hi : Int) ≤ cap ∧ (hi : Int) ≤ xs.length := by omega
    have d4 : ¬ cap = lo := by omega
    have hcl2 := Lib.hid (clone_R (.slice (some ⟨gb, off + lo * 24, none⟩) (hi - lo) (cap - lo)) ((xs.drop lo).take (hi - lo)) w2 (by
      have h1 := rws_drop hRep.out (show lo ≤ xs.length by omega)
      rw [show xs.length - lo = (xs.drop lo).length by simp] at h1
      exact rws_take h1 (by simp; omega)) (by simp; omega))
    have hN : hiS xs t - loS f = hi - lo := by rw [hhi0, hlo]
    obtain ⟨ys, hys⟩ : ∃ ys, (xs.drop lo).take (hi - lo) = ys := ⟨_, rfl⟩
    have hyl : ys.length = hi - lo := by rw [← hys]; simp; omega
    have HYK := Lib.hid (show ∀ k (h : k < ys.length), spanArgs xs f k = #[.int .i64 ((lo : Int) + (k : Int)), Rw.val ys[k]] from fun k hk => by
      unfold spanArgs
      rw [hlo]
      congr 3
      subst hys
      rw [List.getElem_take, List.getElem_drop]
      simp [List.getD, show lo + k < xs.length by omega])
    rw [hys] at hcl2
    clear HR c1 c2 c3
    go_wp2_with fail
    gi_wp2_with fail
    refine ⟨trivial, (callsIn_wide.2 hcl2.out).mono ?_⟩
    rintro e w3 ⟨u, rfl, hO3, f3⟩
    obtain ⟨Au, capu, rfl, hcu, hcu'⟩ := hO3.rep.form
    rw [hyl]
    have HO3 := Lib.hid hO3
    have hs3 : w.heap.size ≤ w3.heap.size := Nat.le_trans F2.size f3.size
    have HJ3 := Lib.hid (H0.out w3 (F2.trans f3))
    have HB3 := Lib.hid (show ∀ j, (Value.slice Au ys.length capu).ownBlock = some j → w2.heap.size ≤ j ∧ j < w3.heap.size from hO3.block)
    have hw2 := F2.size
    clear hO3 hcl2 f3 H0 h2 k0 k1 k2 HR2 hRep
    gi_wp2
    gi_loopw [32] (fun i wr => ∃ k : Nat, k ≤ hi - lo ∧ i = .int .i64 k ∧ Hid (J w3.heap.size k wr) ∧ Hid (OwnL 24 w2.heap.size 27 RR wr (.slice Au ys.length capu) ys) ∧ w3.heap.size ≤ wr.heap.size) (fun i _ => hi - lo - (intOf i).toNat)
    case atStart => exact ⟨0, Nat.zero_le _, rfl, HJ3, HO3, Nat.le_refl _⟩
    case round =>
      obtain ⟨k, hk, rfl, hJ, hO, hsz⟩ := hrel
      by_cases hlt : k < hi - lo
      · have hlt' : k < ys.length := by omega
        obtain ⟨gu, offu, rfl, hrk⟩ := rows_at hO.out.rep hlt'
        have hyk := HYK.out k hlt'
        generalize ys[k] = y at hrk hyk
        have hy0 := hrk.1
        have hr6 := RowAt.new wr 27 hy0
        obtain ⟨fn, tmps, assign, body, hy, hRd⟩ := HY.out w3.heap.size k (wr.alloc (.cells (Rw.cells y).toArray 27)) hs3 (by simp; omega) (by rw [hN]; exact hlt) (HST.out _ _ _ _ (Fut.alloc _ _) hJ.out)
        rw [hyk] at hy
        have e1 : (0 : Int) ≤ k ∧ (k : Int) < (hi - lo : Nat) := by omega
        have e2 : IntKind.i64.wrap ((lo : Int) + (k : Int)) = (lo : Int) + k := by rw [IntKind.wrap_i64]; omega
        gi_wp2_with (first | (refine wpListIn_load_R wide_fn rowTy (wanted_none rfl _) _ rfl rfl hrk ?_) | (refine wpListIn_load_R wide_fn rowTy (wanted_none rfl _) _ rfl rfl hr6 ?_) | (refine wpListIn_store_new wide_fn rowTy (wanted_none rfl _) _ _ rfl rfl rfl rfl hy0 ?_))
        have hO' := Lib.hid (hO.out.fut RR.stays (Fut.alloc wr (.cells (Rw.cells y).toArray 27)))
        have hsz' : wr.heap.size + 1 = (wr.alloc (.cells (Rw.cells y).toArray 27)).heap.size := by simp
        refine hRd.mono ?_
        rintro e w4 (⟨rfl, hJ4, hm4⟩ | ⟨rfl, hJx4⟩)
        · have hO4 := Lib.hid (hO'.out.blkR (w' := w4) (fun j hj => hm4.2 j (by have := (HB3.out j hj).1; omega) (HB3.out j hj).2))
          have hJ4' := Lib.hid hJ4
          have hm41 := hm4.1
          clear hJ4 hm4
          gi_wp2
          go_roundw
          case rel => exact ⟨k + 1, by omega, by go_num, hJ4', hO4, by omega⟩
          case measure => simp [intOf] <;> omega
        · gi_wp2
          refine bodyPost_ret (results_none rfl _ _ _) rfl ?_
          exact ⟨⟨_, rfl⟩, .inr ⟨_, hJx4⟩⟩
      · obtain rfl : k = hi - lo := by omega
        gi_wp2
        go_end0
        exact ⟨⟨_, rfl⟩, .inl ⟨_, by rw [hN]; exact hJ.out⟩⟩
  · obtain ⟨X, hX⟩ : ∃ X, (if (xs.length : Int) < t then (xs.length : Int) else t) = X := ⟨_, rfl⟩
    rw [hX]
    have hN : hiS xs t - loS f = 0 := by omega
    have d1 : X ≤ ((loS f : Nat) : Int) := by
      unfold hiS at hab
      subst hX
      split <;> omega
    have hJ := H0.out w2 F2
    rw [← hN] at hJ
    go_wp2_with fail
    gi_wp2
    refine bodyPost_ret (results_none rfl _ _ _) rfl ?_
    exact ⟨⟨_, rfl⟩, .inl ⟨_, hJ⟩⟩
end Go.Proofs.YtijdichfaofjaaaGreatDoor
