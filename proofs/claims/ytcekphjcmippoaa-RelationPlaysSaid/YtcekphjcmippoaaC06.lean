/- RelU, RefA -/
import Derived.Test.YtcekphjcmippoaaC05
/- turned: a relation behind turns, and the rows that are there. -/
namespace Go.Proofs.Ytcekphjcmippoaa
open Go.RowKit Go.WideMaps
set_option linter.unusedSimpArgs false
set_option linter.unusedVariables false

structure Tn where
  off : Bool
  row : Rw
def RTn (_ : World) (cs : List Value) (t : Tn) : Prop := cs = .bool t.off :: Rw.cells t.row ∧ Rw.ok t.row
theorem RTn.stays : Stays RTn := fun _ _ _ _ _ h => h
def turnL (ar : Nat) (s : List Rw × Nat) (t : Tn) : List Rw × Nat :=
  if t.off = true then (s.1.erase t.row, s.2 + (decide (t.row ∈ s.1)).toNat) else (addL ar s.1 t.row, s.2)
def turnsL (ar : Nat) (l : List Tn) : List Rw × Nat := l.foldl (turnL ar) ([], 0)
theorem turnsL_push (ar : Nat) (l : List Tn) (t : Tn) : turnsL ar (l ++ [t]) = turnL ar (turnsL ar l) t := by simp [turnsL]
theorem turnsL_take (ar : Nat) (l : List Tn) (k : Nat) (hk : k < l.length) : turnsL ar (l.take (k + 1)) = turnL ar (turnsL ar (l.take k)) l[k] := by
  rw [List.take_succ_eq_append_getElem hk, turnsL_push]
theorem addL_len (ar : Nat) (xs : List Rw) (x : Rw) : (addL ar xs x).length ≤ xs.length + 1 := by unfold addL; split <;> simp
theorem turnL_sum (ar : Nat) (s : List Rw × Nat) (t : Tn) : (turnL ar s t).1.length + (turnL ar s t).2 ≤ s.1.length + s.2 + 1 := by
  unfold turnL
  split
  · by_cases hm : t.row ∈ s.1
    · simp [hm, List.length_erase_of_mem]
      have := List.length_pos_of_mem hm
      omega
    · simp [hm, List.erase_of_not_mem hm]
  · have := addL_len ar s.1 t.row
    simp only
    omega
theorem turnsL_sum (ar : Nat) (l : List Tn) : ∀ k, k ≤ l.length → (turnsL ar (l.take k)).1.length + (turnsL ar (l.take k)).2 ≤ k := by
  intro k
  induction k with
  | zero => intro _; simp [turnsL]
  | succ k ih =>
    intro hk
    rw [turnsL_take ar l k (by omega)]
    have := turnL_sum ar (turnsL ar (l.take k)) l[k]
    have := ih (by omega)
    omega
/-- An element of a list of turns. -/
theorem turn_at {w : World} {A : Option Addr} {n cap M : Nat} {l : List Tn} (h : SlRep 25 M RTn w (.slice A n cap) l) {k : Nat} (hk : k < l.length) :
    ∃ b off, A = some ⟨b, off, none⟩ ∧ w.cell? ⟨b, off + k * 25, none⟩ = some (.bool (l[k]).off) ∧ RowAt w b (off + k * 25 + 1) (l[k]).row := by
  obtain ⟨A1, cap1, hv, _, _, h3⟩ := h
  obtain ⟨b, off, cs, hA, hl, hc, hr, hok⟩ := h3 k _ (List.getElem?_eq_getElem hk)
  injection hv with hv _ _
  subst hr
  refine ⟨b, off, hv.trans hA, by have := hc 0 _ rfl; simpa using this, hok, fun j c hj => ?_⟩
  have := hc (j + 1) c (by simpa using hj)
  rwa [show off + (k * 25 + (j + 1)) = off + k * 25 + 1 + j by omega] at this
/-- Where the row stands among the first k; -1: nowhere. -/
def atL (xs : List Rw) (k : Nat) (x : Rw) : Int := if x ∈ xs.take k then ((xs.idxOf x : Nat) : Int) else -1
theorem atL_hit {xs : List Rw} {k : Nat} {x : Rw} (hn : xs.Nodup) (hk : k < xs.length) (he : xs[k] = x) : atL xs (k + 1) x = k := by
  unfold atL
  have h1 : x ∈ xs.take (k + 1) := by rw [List.take_succ_eq_append_getElem hk, he]; simp
  have h2 : xs.idxOf x = k := by
    have h3 : xs.idxOf x < xs.length := List.idxOf_lt_length_iff.2 (by rw [← he]; exact List.getElem_mem hk)
    have h4 : xs[xs.idxOf x] = xs[k] := by rw [List.getElem_idxOf, he]
    exact (List.getElem_inj hn).1 h4
  rw [if_pos h1, h2]
theorem atL_miss {xs : List Rw} {k : Nat} {x : Rw} (hk : k < xs.length) (he : xs[k] ≠ x) : atL xs (k + 1) x = atL xs k x := by
  unfold atL
  have h : x ∈ xs.take (k + 1) ↔ x ∈ xs.take k := by
    rw [List.take_succ_eq_append_getElem hk, List.mem_append, List.mem_singleton]
    exact ⟨fun h => h.elim id (fun h => absurd h.symm he), .inl⟩
  simp only [h]
theorem exec_append_R {P : Program} {o : Oper} {a : Act} {t e : TypeId} {B : Nat} {w : World} {v u : Value} {xs ys : List Rw} {M : Nat} (s x : Operand)
    (ho : o.op = .call { callee := .builtin .append, args := #[s, x], argTypes := #[t, t] }) (ht : P.underlying t = some (.slice e))
    (hinfo : (P.info? e).map (fun i => (i.zero, i.size, i.bytes)) = some (some (Rw.val zeroRow), 24, 96))
    (hs : a.eval s = v) (hx : a.eval x = u) (hown : OwnL 24 B e RR w v xs) (hu : SlRep 24 M RR w u ys) (hlen : xs.length + ys.length ≤ 1407374883512) (hbase : B ≤ w.heap.size) :
    ∃ v' w', (execOp a.eval o).run P w = .ok (.value v') w' ∧ OwnL 24 B e RR w' v' (xs ++ ys) ∧ w.grownBy w' v.ownBlock ∧ (v'.ownBlock = v.ownBlock ∨ v'.ownBlock = some w.heap.size) := by
  obtain ⟨v', w', hr, h2, h3, h4⟩ := run_append_R (ty := o.type) ht hinfo hown hu hlen hbase
  refine ⟨v', w', ?_, h2, h3, h4⟩
  unfold execOp
  simp only [ho, resolve, invoke, builtin, Sem.run_bind, Sem.run_pure, Result.andThen_ok, List.map_toArray, List.map_cons, List.map_nil, hs, hx, hr]

theorem exec_append_new {P : Program} {o : Oper} {a : Act} {t e : TypeId} {B : Nat} {w : World} {u : Value} {ys : List Rw} {M : Nat} (s x : Operand)
    (ho : o.op = .call { callee := .builtin .append, args := #[s, x], argTypes := #[t, t] }) (ht : P.underlying t = some (.slice e))
    (hinfo : (P.info? e).map (fun i => (i.zero, i.size, i.bytes)) = some (some (Rw.val zeroRow), 24, 96))
    (hs : a.eval s = .slice none 0 0) (hx : a.eval x = u) (hu : SlRep 24 M RR w u ys) (hlen : ys.length ≤ 1407374883512) (hbase : B ≤ w.heap.size) :
    ∃ v' w', (execOp a.eval o).run P w = .ok (.value v') w' ∧ Fut w w' ∧ OwnL 24 B e RR w' v' ys := by
  obtain ⟨v', w', hr, hO, hG, _⟩ := exec_append_R s x ho ht hinfo hs hx (OwnL.nil (B := B)) hu (by simpa using hlen) hbase
  exact ⟨v', w', hr, (Fut.refl _).grown hG (fun j h => by cases h), by simpa using hO⟩
set_option maxHeartbeats 4000000 in
set_option maxRecDepth 100000 in
theorem turned_any (ar : Nat) (har : ar ≤ 24) (v : Value) (l : List Tn) (w : World) (M : Nat) (hM : l.length ≤ 1407374883512) (h : SlRep 25 M RTn w v l) :
    Calls Try.prog 9 #[.int .i64 ar, v] w fun e w' => ∃ b pb mb lv rv, e = .returned (.tuple #[.pointer (some ⟨b, 0, none⟩), rv, .bool true]) ∧
      RelI w.heap.size w' b pb mb lv ar (turnsL ar l).2 (turnsL ar l).1 ∧ OwnL 24 w.heap.size 32 RR w' rv (turnsL ar l).1 ∧ (∀ k, rv.ownBlock = some k → ¬ foot b pb mb lv k) ∧ Fut w w' := by
  have H := Lib.hid h
  have hll := h.len
  obtain ⟨A, cap, rfl, hcl, hcm⟩ := h.form
  clear h
  go_enter Try.func9, Try.ntmps9
  go_wp2_with fail
  refine (new_any ar har _).mono ?_
  rintro e w1 ⟨b, pb, mb, rfl, hR, f1⟩
  have HR := Lib.hid hR
  have F1 := Lib.hid f1
  clear hR f1
  go_wp2
  go_loopw [9, 10, 11] (fun rv ad i wr => ∃ (k : Nat) (lv : Value), k ≤ l.length ∧ i = .int .i64 k ∧ ad = .int .i64 (((turnsL ar (l.take k)).1.length + (turnsL ar (l.take k)).2 : Nat) : Int) ∧
    Hid (RelI w.heap.size wr b pb mb lv ar (turnsL ar (l.take k)).2 (turnsL ar (l.take k)).1) ∧ Hid (OwnL 24 w.heap.size 32 RR wr rv (turnsL ar (l.take k)).1) ∧ Hid (∀ j, rv.ownBlock = some j → ¬ foot b pb mb lv j) ∧ Hid (Fut w wr)) (fun _ _ i _ => l.length - (intOf i).toNat)
  case atStart => exact ⟨0, _, Nat.zero_le _, rfl, rfl, HR, Lib.hid OwnL.nil, Lib.hid (fun j h => by cases h), F1⟩
  case round =>
    obtain ⟨k, lv, hk, rfl, rfl, hR, hO, hA, hF⟩ := hrel
    by_cases hlt : k < l.length
    · have hsum := turnsL_sum ar l k hk
      have hstep := turnsL_take ar l k hlt
      obtain ⟨gb, off, rfl, ct0, hrow0⟩ := turn_at H.out hlt
      have hgb : gb < w.heap.size := lt_of_cell ct0
      have ct := hF.out.cell ct0
      have hrow := hrow0.fut hF.out
      clear ct0 hrow0
      generalize hT : turnsL ar (l.take k) = T at hR hO hsum hstep
      obtain ⟨xs, gone⟩ := T
      simp only at hR hO hsum
      generalize hl0 : l[k] = t0 at ct hrow hstep
      obtain ⟨toff, row⟩ := t0
      simp only at ct hrow
      obtain ⟨wO, hwO⟩ : ∃ x, x = wr := ⟨_, rfl⟩
      subst hwO
      have e1 : (0 : Int) ≤ k ∧ (k : Int) < l.length := by omega
      obtain ⟨Ar, capr, rfl, hcr, hcr'⟩ := hO.out.rep.form
      have hok := hrow.1
      have hnd := hR.out.pl.nodup
      go_wp2
      go_loopw [12, 13] (fun at_ kk wr => ∃ m : Nat, m ≤ xs.length ∧ kk = .int .i64 m ∧ at_ = .int .i64 (atL xs m row) ∧ Hid (Fut wO wr)) (fun _ kk _ => xs.length - (intOf kk).toNat)
      case atStart => exact ⟨0, Nat.zero_le _, rfl, by simp [atL], Lib.hid (Fut.refl _)⟩
      case round =>
        obtain ⟨m, hm, rfl, rfl, hG⟩ := hrel
        by_cases hml : m < xs.length
        · obtain ⟨gr, offr, hAr, hrm⟩ := rows_at (hO.out.fut RR.stays hG.out).rep hml
          subst hAr
          have hr0 := hrow.fut hG.out
          have e2 : (0 : Int) ≤ m ∧ (m : Int) < xs.length := by omega
          go_wp2
          refine wp_graph 10 [.d, .d, .d, .d, .d, .d, .d, .d, .d, .d] (by kernel_rfl) (by kernel_rfl) (by kernel_rfl) ?_
          simp only [List.take_succ_cons, List.take_zero, List.drop_succ_cons, List.drop_zero, Exs]
          iterate 10 apply Exists.intro
          apply Run.valG (wanted_none rfl _)
          · intro w1 h1 hk
            have hg := (Fut.drew _).trans h1
            have hcw := fun b o => Below.cell (p := ⟨b, o, none⟩) h1
            go_simp; rfl
          simp only [Act.put, List.setIfInBounds_toArray, List.set_cons_succ, List.set_cons_zero, List.nil_append, List.cons_append]
          apply Run.valG (wanted_none rfl _)
          · intro w1 h1 hk
            have hg := (Fut.drew _).trans h1
            have hcw := fun b o => Below.cell (p := ⟨b, o, none⟩) h1
            go_simp; rfl
          simp only [Act.put, List.setIfInBounds_toArray, List.set_cons_succ, List.set_cons_zero, List.nil_append, List.cons_append]
          apply Run.valG (wanted_none rfl _)
          · intro w1 h1 hk
            have hg := (Fut.drew _).trans h1
            have hcw := fun b o => Below.cell (p := ⟨b, o, none⟩) h1
            go_simp; rfl
          simp only [Act.put, List.setIfInBounds_toArray, List.set_cons_succ, List.set_cons_zero, List.nil_append, List.cons_append]
          apply Run.valG (wanted_none rfl _)
          · intro w1 h1 hk
            have hg := (Fut.drew _).trans h1
            have hcw := fun b o => Below.cell (p := ⟨b, o, none⟩) h1
            exact exec_load_R rowTy _ rfl rfl (hrm.fut hg)
          simp only [Act.put, List.setIfInBounds_toArray, List.set_cons_succ, List.set_cons_zero, List.nil_append, List.cons_append]
          apply Run.valG (wanted_none rfl _)
          · intro w1 h1 hk
            have hg := (Fut.drew _).trans h1
            have hcw := fun b o => Below.cell (p := ⟨b, o, none⟩) h1
            go_simp; rfl
          simp only [Act.put, List.setIfInBounds_toArray, List.set_cons_succ, List.set_cons_zero, List.nil_append, List.cons_append]
          apply Run.valG (wanted_none rfl _)
          · intro w1 h1 hk
            have hg := (Fut.drew _).trans h1
            have hcw := fun b o => Below.cell (p := ⟨b, o, none⟩) h1
            go_simp; rfl
          simp only [Act.put, List.setIfInBounds_toArray, List.set_cons_succ, List.set_cons_zero, List.nil_append, List.cons_append]
          apply Run.valG (wanted_none rfl _)
          · intro w1 h1 hk
            have hg := (Fut.drew _).trans h1
            have hcw := fun b o => Below.cell (p := ⟨b, o, none⟩) h1
            go_simp; rfl
          simp only [Act.put, List.setIfInBounds_toArray, List.set_cons_succ, List.set_cons_zero, List.nil_append, List.cons_append]
          apply Run.valG (wanted_none rfl _)
          · intro w1 h1 hk
            have hg := (Fut.drew _).trans h1
            have hcw := fun b o => Below.cell (p := ⟨b, o, none⟩) h1
            go_simp; rfl
          simp only [Act.put, List.setIfInBounds_toArray, List.set_cons_succ, List.set_cons_zero, List.nil_append, List.cons_append]
          apply Run.valG (wanted_none rfl _)
          · intro w1 h1 hk
            have hg := (Fut.drew _).trans h1
            have hcw := fun b o => Below.cell (p := ⟨b, o, none⟩) h1
            exact exec_load_R rowTy _ rfl rfl (hr0.fut hg)
          simp only [Act.put, List.setIfInBounds_toArray, List.set_cons_succ, List.set_cons_zero, List.nil_append, List.cons_append]
          apply Run.valG (wanted_none rfl _)
          · intro w1 h1 hk
            have hg := (Fut.drew _).trans h1
            have hcw := fun b o => Below.cell (p := ⟨b, o, none⟩) h1
            exact exec_eql_R rowTy noGuard _ _ _ rfl rfl rfl hrm.1 hr0.1
          simp only [Act.put, List.setIfInBounds_toArray, List.set_cons_succ, List.set_cons_zero, List.nil_append, List.cons_append]
          apply Run.done
          intro w2 h2 hk
          clear hk
          have hG2 := Lib.hid (hG.out.trans ((Fut.drew _).trans h2))
          by_cases he : xs[m] = row
          · rw [decide_eq_true he]
            go_wp2
            go_roundw
            case rel => exact ⟨m + 1, by omega, by go_num, by rw [atL_hit hnd hml he], hG2⟩
            case measure => simp [intOf] <;> omega
          · rw [decide_eq_false he]
            go_wp2
            go_roundw
            case rel => exact ⟨m + 1, by omega, by go_num, by rw [atL_miss hml he], hG2⟩
            case measure => simp [intOf] <;> omega
        · obtain rfl : m = xs.length := by omega
          have ct2 := hG.out.cell ct
          have hr2 := hrow.fut hG.out
          have HRq := Lib.hid (hR.out.fut hG.out)
          have HOq := Lib.hid (hO.out.fut RR.stays hG.out)
          have HFq := Lib.hid (hF.out.trans hG.out)
          have hxl : xs.length < 1407374883512 := by omega
          have hgl : gone < 4611686018427387904 := by omega
          obtain ⟨wq, hwq⟩ : ∃ x, x = wr := ⟨_, rfl⟩
          subst hwq
          clear hrow ct hR hO hF hG
          have HQ1 : w.heap.size ≤ wq.heap.size := HFq.out.size
          by_cases hin : row ∈ xs
          · have hat : atL xs xs.length row = ((xs.idxOf row : Nat) : Int) := by unfold atL; rw [List.take_length, if_pos hin]
            have hil : xs.idxOf row < xs.length := List.idxOf_lt_length_iff.2 hin
            have her : xs.erase row = xs.take (xs.idxOf row) ++ xs.drop (xs.idxOf row + 1) := by
              rw [List.erase_eq_eraseIdx_of_idxOf rfl, List.eraseIdx_eq_take_drop_succ]
            rw [hat]
            generalize xs.idxOf row = m at hil her
            clear hat
            have d0 : ¬ (m : Int) < 0 := by omega
            have d1 : (0 : Int) ≤ m ∧ (m : Int) ≤ xs.length ∧ (m : Int) ≤ capr := by omega
            cases toff with
            | true =>
              go_wp2_with (first | (refine wpList_load_R rowTy (wanted_none rfl _) _ rfl rfl hr2 ?_))
              refine (remove_any HRq.out HQ1 row hok (by omega) hgl).mono ?_
              rintro e w3 ⟨rfl, lv3, hR3, hO3, hV3⟩
              have HR3 := Lib.hid hR3
              have HO3 := Lib.hid (HOq.out.onlyR hO3 hA.out)
              have F3 := Lib.hid (((Only.fut HFq.out).trans (hO3.mono (S' := fun k => w.heap.size ≤ k) fun k _ hk => HRq.out.ge k hk)).toFut fun k hk => hk)
              have hT1 : turnL ar (xs, gone) { off := true, row := row } = (xs.erase row, gone + 1) := by simp [turnL, hin]
              rw [hT1] at hstep
              clear hR3 hO3 hV3
              rw [decide_eq_true hin] at HR3 ⊢
              obtain ⟨gr, offr, rfl, _⟩ := rows_at HO3.out.rep hil
              have d3 : IntKind.i64.wrap ((m : Int) + 1) = ((m + 1 : Nat) : Int) := by rw [IntKind.wrap_i64]; omega
              have d4 : m + 1 ≤ xs.length := hil
              have d2 : (0 : Int) ≤ (m : Int) + 1 ∧ (m : Int) + 1 ≤ xs.length ∧ (m : Int) + 1 ≤ capr := by omega
              have hRep := Lib.hid (HO3.out.rep.more (M' := 9223372036854775807) (by unfold maxLen; omega))
              go_wp2_with fail
              refine wp_graph 8 [.d, .d, .d, .r (fun v w' => OwnL 24 w3.heap.size 32 RR w' v (xs.take m)), .d, .d, .d, .r (fun v w' => Rws w' v (xs.drop (m + 1)))] (by kernel_rfl) (by kernel_rfl) (by kernel_rfl) ?_
              simp only [List.take_succ_cons, List.take_zero, List.drop_succ_cons, List.drop_zero, Exs]
              iterate 6 apply Exists.intro
              apply Run.valG (wanted_none rfl _)
              · intro w1 h1 hk
                have hg := (Fut.drew _).trans h1
                have hcw := fun b o => Below.cell (p := ⟨b, o, none⟩) h1
                go_simp; rfl
              simp only [Act.put, List.setIfInBounds_toArray, List.set_cons_succ, List.set_cons_zero, List.nil_append, List.cons_append]
              apply Run.valG (wanted_none rfl _)
              · intro w1 h1 hk
                have hg := (Fut.drew _).trans h1
                have hcw := fun b o => Below.cell (p := ⟨b, o, none⟩) h1
                go_simp; rfl
              simp only [Act.put, List.setIfInBounds_toArray, List.set_cons_succ, List.set_cons_zero, List.nil_append, List.cons_append]
              apply Run.valG (wanted_none rfl _)
              · intro w1 h1 hk
                have hg := (Fut.drew _).trans h1
                have hcw := fun b o => Below.cell (p := ⟨b, o, none⟩) h1
                go_simp; rfl
              simp only [Act.put, List.setIfInBounds_toArray, List.set_cons_succ, List.set_cons_zero, List.nil_append, List.cons_append]
              apply Run.valR (wanted_none rfl _) (by intro v w w' hf hs; exact hs.fut RR.stays hf)
              · intro w1 h1 hk
                have hg := (Fut.drew _).trans h1
                exact exec_append_new _ _ rfl Try.underlying25 infoR rfl rfl ((rws_take hRep.out (Nat.le_of_lt hil)).fut RR.stays hg) (by simp; omega) hg.size
              intro v3
              simp only [Act.put, List.setIfInBounds_toArray, List.set_cons_succ, List.set_cons_zero, List.nil_append, List.cons_append]
              apply Run.valG (wanted_none rfl _)
              · intro w1 h1 hk
                have hg := (Fut.drew _).trans h1
                have hcw := fun b o => Below.cell (p := ⟨b, o, none⟩) h1
                go_simp; rfl
              simp only [Act.put, List.setIfInBounds_toArray, List.set_cons_succ, List.set_cons_zero, List.nil_append, List.cons_append]
              apply Run.valG (wanted_none rfl _)
              · intro w1 h1 hk
                have hg := (Fut.drew _).trans h1
                have hcw := fun b o => Below.cell (p := ⟨b, o, none⟩) h1
                go_simp; rfl
              simp only [Act.put, List.setIfInBounds_toArray, List.set_cons_succ, List.set_cons_zero, List.nil_append, List.cons_append]
              apply Run.valG (wanted_none rfl _)
              · intro w1 h1 hk
                have hg := (Fut.drew _).trans h1
                have hcw := fun b o => Below.cell (p := ⟨b, o, none⟩) h1
                go_simp; rfl
              simp only [Act.put, List.setIfInBounds_toArray, List.set_cons_succ, List.set_cons_zero, List.nil_append, List.cons_append]
              apply Run.valR (wanted_none rfl _) (by intro v w w' hf hs; exact hs.fut RR.stays hf)
              · intro w1 h1 hk
                have hg := (Fut.drew _).trans h1
                exact ⟨_, _, (by go_simp <;> rfl), Fut.refl _, (rws_drop' hRep.out d4).fut RR.stays hg⟩
              intro v7
              simp only [Act.put, List.setIfInBounds_toArray, List.set_cons_succ, List.set_cons_zero, List.nil_append, List.cons_append]
              apply Run.done
              intro w4 h4 hk
              obtain ⟨f3, f7, _⟩ := hk
              have h4' := (Fut.drew w3).trans h4
              have h4s := h4'.size
              have hlen5 : (xs.take m).length + (xs.drop (m + 1)).length ≤ 1407374883512 := by simp; omega
              go_wp2_with (first | (refine wpList_append_R (wanted_none rfl _) _ _ rfl Try.underlying25 infoR rfl rfl f3 f7 hlen5 h4s ?_; intro v5 w5 hO5 hG5 hB5))
              have F5 := h4'.grown hG5 (fun j hj => (f3.block j hj).1)
              rw [← her] at hO5
              go_roundw
              case rel =>
                refine ⟨k + 1, lv3, by omega, by go_num, ?_, Lib.hid ?_, Lib.hid ?_, Lib.hid fun j hj hf => ?_, Lib.hid (F3.out.trans F5)⟩
                · rw [hstep]
                  simp only [List.length_erase_of_mem hin]
                  have := List.length_pos_of_mem hin
                  congr 1; omega
                · rw [hstep]; exact HR3.out.fut F5
                · rw [hstep]; exact hO5.base (by have := F3.out.size; omega)
                · have := HR3.out.lt j hf
                  have := (hO5.block j hj).1
                  omega
              case measure => simp [intOf] <;> omega
            | false =>
              obtain ⟨rp, hR⟩ : ∃ r, rightP ar row = r := ⟨_, rfl⟩
              cases rp with
              | true =>
                have v1 : (rightP ar row && !decide (row ∈ xs)) = false := by rw [decide_eq_true hin]; simp
                have v2 : rowErr (rightP ar row) = 0 := by rw [hR]; rfl
                go_wp2_with (first | (refine wpList_load_R rowTy (wanted_none rfl _) _ rfl rfl hr2 ?_))
                refine (right10_any ar row hok _).mono ?_
                rintro e w3 ⟨rfl, f3⟩
                rw [hR]
                have hr3 := hr2.fut f3
                have ct3 := f3.cell ct2
                have hs3 := f3.size
                go_wp2_with (first | (refine wpList_load_R rowTy (wanted_none rfl _) _ rfl rfl hr3 ?_))
                refine (add_any (HRq.out.fut f3) (by omega) row hok hxl).mono ?_
                rintro e w4 ⟨rfl, lv4, hR4, hO4, hV4⟩
                rw [v1, v2]
                have HA4 := Lib.hid (fun j (hj : (Value.slice Ar xs.length capr).ownBlock = some j) (hf : foot b pb mb lv4 j) => (by
                  have h1 := hA.out j hj
                  rcases hf with h | h | h | h
                  · exact h1 (.inl h)
                  · exact h1 (.inr (.inl h))
                  · exact h1 (.inr (.inr (.inl h)))
                  · rcases hV4 j h with h' | h'
                    · exact h1 (.inr h')
                    · have := (HOq.out.block j hj).2; omega : False))
                have HO4 := Lib.hid ((HOq.out.fut RR.stays f3).onlyR hO4 (fun j hj hf => hA.out j hj (.inr hf)))
                have F4 := Lib.hid (((Only.fut (HFq.out.trans f3)).trans (hO4.mono (S' := fun k => w.heap.size ≤ k) fun k _ hk => HRq.out.pl.ge k hk)).toFut fun k hk => hk)
                have HR4 := Lib.hid hR4
                have hs4 := hO4.size
                have ha1 : addL ar xs row = xs := by unfold addL; rw [v1]; rfl
                have hT1 : turnL ar (xs, gone) { off := false, row := row } = (xs, gone) := by simp [turnL, ha1]
                rw [hT1] at hstep
                rw [ha1] at HR4
                clear hR4 hO4 hV4
                go_wp2
                go_roundw
                case rel => exact ⟨k + 1, lv4, by omega, by go_num, by rw [hstep]; rfl, Lib.hid (by rw [hstep]; exact HR4.out), Lib.hid (by rw [hstep]; exact HO4.out), HA4, F4⟩
                case measure => simp [intOf] <;> omega
              | false =>
                have v1 : (rightP ar row && !decide (row ∈ xs)) = false := by rw [decide_eq_true hin]; simp
                have v2 : rowErr (rightP ar row) = 100 := by rw [hR]; rfl
                go_wp2_with (first | (refine wpList_load_R rowTy (wanted_none rfl _) _ rfl rfl hr2 ?_))
                refine (right10_any ar row hok _).mono ?_
                rintro e w3 ⟨rfl, f3⟩
                rw [hR]
                have hr3 := hr2.fut f3
                have ct3 := f3.cell ct2
                have hs3 := f3.size
                go_wp2_with (first | (refine wpList_load_R rowTy (wanted_none rfl _) _ rfl rfl hr3 ?_))
                refine (add_any (HRq.out.fut f3) (by omega) row hok hxl).mono ?_
                rintro e w4 ⟨rfl, lv4, hR4, hO4, hV4⟩
                rw [v1, v2]
                have HA4 := Lib.hid (fun j (hj : (Value.slice Ar xs.length capr).ownBlock = some j) (hf : foot b pb mb lv4 j) => (by
                  have h1 := hA.out j hj
                  rcases hf with h | h | h | h
                  · exact h1 (.inl h)
                  · exact h1 (.inr (.inl h))
                  · exact h1 (.inr (.inr (.inl h)))
                  · rcases hV4 j h with h' | h'
                    · exact h1 (.inr h')
                    · have := (HOq.out.block j hj).2; omega : False))
                have HO4 := Lib.hid ((HOq.out.fut RR.stays f3).onlyR hO4 (fun j hj hf => hA.out j hj (.inr hf)))
                have F4 := Lib.hid (((Only.fut (HFq.out.trans f3)).trans (hO4.mono (S' := fun k => w.heap.size ≤ k) fun k _ hk => HRq.out.pl.ge k hk)).toFut fun k hk => hk)
                have HR4 := Lib.hid hR4
                have hs4 := hO4.size
                have ha1 : addL ar xs row = xs := by unfold addL; rw [v1]; rfl
                have hT1 : turnL ar (xs, gone) { off := false, row := row } = (xs, gone) := by simp [turnL, ha1]
                rw [hT1] at hstep
                rw [ha1] at HR4
                clear hR4 hO4 hV4
                go_wp2
                go_roundw
                case rel => exact ⟨k + 1, lv4, by omega, by go_num, by rw [hstep]; rfl, Lib.hid (by rw [hstep]; exact HR4.out), Lib.hid (by rw [hstep]; exact HO4.out), HA4, F4⟩
                case measure => simp [intOf] <;> omega
          · have hat : atL xs xs.length row = -1 := by unfold atL; rw [List.take_length, if_neg hin]
            rw [hat]
            clear hat
            cases toff with
            | true =>
              go_wp2_with (first | (refine wpList_load_R rowTy (wanted_none rfl _) _ rfl rfl hr2 ?_))
              refine (remove_any HRq.out HQ1 row hok (by omega) hgl).mono ?_
              rintro e w3 ⟨rfl, lv3, hR3, hO3, hV3⟩
              have HR3 := Lib.hid hR3
              have HO3 := Lib.hid (HOq.out.onlyR hO3 hA.out)
              have F3 := Lib.hid (((Only.fut HFq.out).trans (hO3.mono (S' := fun k => w.heap.size ≤ k) fun k _ hk => HRq.out.ge k hk)).toFut fun k hk => hk)
              have hT1 : turnL ar (xs, gone) { off := true, row := row } = (xs.erase row, gone + 0) := by simp [turnL, hin]
              rw [hT1] at hstep
              have HV3 := Lib.hid hV3
              clear hR3 hO3 hV3
              rw [decide_eq_false hin] at HR3 ⊢
              rw [List.erase_of_not_mem hin] at HR3 hstep
              go_wp2
              go_roundw
              case rel =>
                refine ⟨k + 1, lv3, by omega, by go_num, ?_, Lib.hid ?_, Lib.hid ?_, Lib.hid fun j hj hf => ?_, F3⟩
                · rw [hstep]; rfl
                · rw [hstep]; exact HR3.out
                · rw [hstep]; exact HO3.out
                · have h1 := hA.out j hj
                  rcases hf with h | h | h | h
                  · exact h1 (.inl h)
                  · exact h1 (.inr (.inl h))
                  · exact h1 (.inr (.inr (.inl h)))
                  · rcases HV3.out j h with h' | h'
                    · exact h1 (.inr h')
                    · have := (HOq.out.block j hj).2; omega
              case measure => simp [intOf] <;> omega
            | false =>
              obtain ⟨rp, hR⟩ : ∃ r, rightP ar row = r := ⟨_, rfl⟩
              cases rp with
              | true =>
                have v1 : (rightP ar row && !decide (row ∈ xs)) = true := by rw [decide_eq_false hin, hR]; rfl
                have v2 : rowErr (rightP ar row) = 0 := by rw [hR]; rfl
                go_wp2_with (first | (refine wpList_load_R rowTy (wanted_none rfl _) _ rfl rfl hr2 ?_))
                refine (right10_any ar row hok _).mono ?_
                rintro e w3 ⟨rfl, f3⟩
                rw [hR]
                have hr3 := hr2.fut f3
                have ct3 := f3.cell ct2
                have hs3 := f3.size
                go_wp2_with (first | (refine wpList_load_R rowTy (wanted_none rfl _) _ rfl rfl hr3 ?_))
                refine (add_any (HRq.out.fut f3) (by omega) row hok hxl).mono ?_
                rintro e w4 ⟨rfl, lv4, hR4, hO4, hV4⟩
                rw [v1, v2]
                have HA4 := Lib.hid (fun j (hj : (Value.slice Ar xs.length capr).ownBlock = some j) (hf : foot b pb mb lv4 j) => (by
                  have h1 := hA.out j hj
                  rcases hf with h | h | h | h
                  · exact h1 (.inl h)
                  · exact h1 (.inr (.inl h))
                  · exact h1 (.inr (.inr (.inl h)))
                  · rcases hV4 j h with h' | h'
                    · exact h1 (.inr h')
                    · have := (HOq.out.block j hj).2; omega : False))
                have HO4 := Lib.hid ((HOq.out.fut RR.stays f3).onlyR hO4 (fun j hj hf => hA.out j hj (.inr hf)))
                have F4 := Lib.hid (((Only.fut (HFq.out.trans f3)).trans (hO4.mono (S' := fun k => w.heap.size ≤ k) fun k _ hk => HRq.out.pl.ge k hk)).toFut fun k hk => hk)
                have HR4 := Lib.hid hR4
                have hs4 := hO4.size
                have ha1 : addL ar xs row = xs ++ [row] := by unfold addL; rw [v1]; rfl
                have hT1 : turnL ar (xs, gone) { off := false, row := row } = (xs ++ [row], gone) := by simp [turnL, ha1]
                rw [hT1] at hstep
                rw [ha1] at HR4
                have hr4 := hr3.only hO4 (fun hf => by have := HRq.out.pl.ge gb hf; omega)
                clear hR4 hO4 hV4
                have e5 : IntKind.i64.wrap (((xs.length + gone : Nat) : Int) + 1) = ((xs.length + gone + 1 : Nat) : Int) := by rw [IntKind.wrap_i64]; omega
                have e6 : IntKind.i64.wrap ((xs.length : Int) + gone + 1) = ((xs.length + gone + 1 : Nat) : Int) := by rw [IntKind.wrap_i64]; omega
                have hOa := HO4.out.fut RR.stays (Fut.alloc w4 (.cells (Rw.cells row).toArray 32))
                have hRo := rowOne w4 32 hok
                have hBa : w.heap.size ≤ (w4.alloc (.cells (Rw.cells row).toArray 32)).heap.size := by simp; omega
                have hLa : xs.length + [row].length ≤ 1407374883512 := by simp; omega
                go_wp2_with (first | (refine wpList_load_R rowTy (wanted_none rfl _) _ rfl rfl hr4 ?_) | (refine wpList_of_run (wanted_none rfl _) (exec_one_R rowTy zeroR Try.underlying25 _ rfl rfl hok) ?_) | (refine wpList_append_R (wanted_none rfl _) _ _ rfl Try.underlying25 infoR rfl rfl hOa hRo hLa hBa ?_; intro v6 w6 hO6 hG6 hB6))
                go_roundw
                case rel =>
                  have fa := Fut.alloc w4 (.cells (Rw.cells row).toArray 32)
                  have O6 : Only (fun j => (Value.slice Ar xs.length capr).ownBlock = some j) w4 w6 := (Only.fut fa).trans (Only.grown hG6 (fun j hj => hj))
                  refine ⟨k + 1, lv4, by omega, by go_num, ?_, Lib.hid ?_, Lib.hid ?_, Lib.hid fun j hj hf => ?_, Lib.hid (((Only.fut F4.out).trans (O6.mono (S' := fun k => w.heap.size ≤ k) fun j _ hj => (HO4.out.block j hj).1)).toFut fun k hk => hk)⟩
                  · rw [hstep]
                    simp only [List.length_append, List.length_cons, List.length_nil]
                    first | rfl | (congr 1; omega)
                  · rw [hstep]; exact HR4.out.only O6 (fun j hf hj => HA4.out j hj hf)
                  · rw [hstep]; exact hO6
                  · rcases hB6 with h | h
                    · exact HA4.out j (h ▸ hj) hf
                    · rw [h] at hj; cases hj
                      have := HR4.out.lt _ hf
                      simp at this; omega
                case measure => simp [intOf] <;> omega
              | false =>
                have v1 : (rightP ar row && !decide (row ∈ xs)) = false := by rw [decide_eq_false hin, hR]; rfl
                have v2 : rowErr (rightP ar row) = 100 := by rw [hR]; rfl
                go_wp2_with (first | (refine wpList_load_R rowTy (wanted_none rfl _) _ rfl rfl hr2 ?_))
                refine (right10_any ar row hok _).mono ?_
                rintro e w3 ⟨rfl, f3⟩
                rw [hR]
                have hr3 := hr2.fut f3
                have ct3 := f3.cell ct2
                have hs3 := f3.size
                go_wp2_with (first | (refine wpList_load_R rowTy (wanted_none rfl _) _ rfl rfl hr3 ?_))
                refine (add_any (HRq.out.fut f3) (by omega) row hok hxl).mono ?_
                rintro e w4 ⟨rfl, lv4, hR4, hO4, hV4⟩
                rw [v1, v2]
                have HA4 := Lib.hid (fun j (hj : (Value.slice Ar xs.length capr).ownBlock = some j) (hf : foot b pb mb lv4 j) => (by
                  have h1 := hA.out j hj
                  rcases hf with h | h | h | h
                  · exact h1 (.inl h)
                  · exact h1 (.inr (.inl h))
                  · exact h1 (.inr (.inr (.inl h)))
                  · rcases hV4 j h with h' | h'
                    · exact h1 (.inr h')
                    · have := (HOq.out.block j hj).2; omega : False))
                have HO4 := Lib.hid ((HOq.out.fut RR.stays f3).onlyR hO4 (fun j hj hf => hA.out j hj (.inr hf)))
                have F4 := Lib.hid (((Only.fut (HFq.out.trans f3)).trans (hO4.mono (S' := fun k => w.heap.size ≤ k) fun k _ hk => HRq.out.pl.ge k hk)).toFut fun k hk => hk)
                have HR4 := Lib.hid hR4
                have hs4 := hO4.size
                have ha1 : addL ar xs row = xs := by unfold addL; rw [v1]; rfl
                have hT1 : turnL ar (xs, gone) { off := false, row := row } = (xs, gone) := by simp [turnL, ha1]
                rw [hT1] at hstep
                rw [ha1] at HR4
                clear hR4 hO4 hV4
                go_wp2
                go_roundw
                case rel => exact ⟨k + 1, lv4, by omega, by go_num, by rw [hstep]; rfl, Lib.hid (by rw [hstep]; exact HR4.out), Lib.hid (by rw [hstep]; exact HO4.out), HA4, F4⟩
                case measure => simp [intOf] <;> omega
    · obtain rfl : k = l.length := by omega
      rw [List.take_length] at hR hO ⊢
      generalize hT : turnsL ar l = T at hR hO
      obtain ⟨xs, gone⟩ := T
      simp only at hR hO
      have hsum := turnsL_sum ar l l.length (Nat.le_refl _)
      rw [List.take_length, hT] at hsum
      simp only at hsum
      obtain ⟨Ar, capr, rfl, hcr, hcr'⟩ := hO.out.rep.form
      have e6 : IntKind.i64.wrap ((xs.length : Int) + gone) = ((xs.length + gone : Nat) : Int) := by rw [IntKind.wrap_i64]; omega
      go_wp2_with fail
      refine (len_any hR.out).mono ?_
      rintro e w6 ⟨rfl, hw6⟩
      have hw6' := hw6.symm
      subst hw6'
      go_wp2_with fail
      refine (len_any hR.out).mono ?_
      rintro e w6 ⟨rfl, hw6⟩
      have hw6' := hw6.symm
      subst hw6'
      go_wp2_with fail
      refine (gone_any hR.out).mono ?_
      rintro e w6 ⟨rfl, hw6⟩
      have hw6' := hw6.symm
      subst hw6'
      go_wp2
      go_ret3
      rw [hT]
      exact ⟨b, pb, mb, lv, _, rfl, hR.out, hO.out, hA.out, hF.out⟩
end Go.Proofs.Ytcekphjcmippoaa
/- The document's relation: what it holds; the calls that look. -/
namespace Go.Proofs.Ytcekphjcmippoaa
open Go.RowKit Go.WideMaps
set_option linter.unusedSimpArgs false
set_option linter.unusedVariables false

structure RefI (B : Nat) (w : World) (b : Nat) (v : Value) (ar gone : Nat) (xs : List Rw) : Prop where
  blk : w.heap[b]? = some (.cells #[.bool true, .int .i64 ar, v, .int .i64 gone] 91 (0, 0))
  list : OwnL 24 B 32 RR w v xs
  sep : ∀ k, v.ownBlock = some k → k ≠ b
  base : B ≤ b
theorem RefI.fut {B : Nat} {w w' : World} {b : Nat} {v : Value} {ar gone : Nat} {xs : List Rw} (h : RefI B w b v ar gone xs) (hf : Fut w w') : RefI B w' b v ar gone xs :=
  ⟨hf.block h.blk, h.list.fut RR.stays hf, h.sep, h.base⟩
def rfoot (b : Nat) (v : Value) (k : Nat) : Prop := k = b ∨ v.ownBlock = some k
theorem RefI.only {B : Nat} {w w' : World} {b : Nat} {v : Value} {ar gone : Nat} {xs : List Rw} {S : Nat → Prop} (h : RefI B w b v ar gone xs) (ho : Only S w w') (hd : ∀ k, rfoot b v k → ¬ S k) : RefI B w' b v ar gone xs :=
  ⟨ho.keeps h.blk (hd b (.inl rfl)), h.list.onlyR ho fun k hk => hd k (.inr hk), h.sep, h.base⟩
theorem RefI.lt {B : Nat} {w : World} {b : Nat} {v : Value} {ar gone : Nat} {xs : List Rw} (h : RefI B w b v ar gone xs) : ∀ k, rfoot b v k → k < w.heap.size := fun k hk => by
  rcases hk with rfl | hk
  · exact (Array.getElem?_eq_some_iff.1 h.blk).1
  · exact (h.list.block k hk).2
theorem RefI.ge {B : Nat} {w : World} {b : Nat} {v : Value} {ar gone : Nat} {xs : List Rw} (h : RefI B w b v ar gone xs) : ∀ k, rfoot b v k → B ≤ k := fun k hk => by
  rcases hk with rfl | hk
  · exact h.base
  · exact (h.list.block k hk).1
set_option maxHeartbeats 400000 in
theorem rthere_nil (w : World) : Calls Try.prog 42 #[.pointer none] w fun e w' => e = .returned (.bool false) ∧ w' = w := by
  go_enter Try.func42, Try.ntmps42
  go_wp2
  go_ret
  exact ⟨rfl, rfl⟩
set_option maxHeartbeats 400000 in
theorem rthere_any {B : Nat} {w : World} {b : Nat} {v : Value} {ar gone : Nat} {xs : List Rw} (h : RefI B w b v ar gone xs) :
    Calls Try.prog 42 #[.pointer (some ⟨b, 0, none⟩)] w fun e w' => e = .returned (.bool true) ∧ w' = w := by
  have c0 : w.cell? ⟨b, 0, none⟩ = some (.bool true) := cell_at h.blk 0 _ rfl
  clear h
  go_enter Try.func42, Try.ntmps42
  go_wp2
  go_ret
  exact ⟨rfl, rfl⟩
set_option maxHeartbeats 400000 in
theorem rarity_nil (w : World) : Calls Try.prog 65 #[.pointer none] w fun e w' => e = .returned (.int .i64 0) ∧ w' = w := by
  go_enter Try.func65, Try.ntmps65
  go_wp2_with fail
  refine (rthere_nil w).mono ?_
  rintro e w1 ⟨rfl, hw1⟩
  have hw1' := hw1.symm
  subst hw1'
  go_wp2
  go_ret
  exact ⟨rfl, rfl⟩
set_option maxHeartbeats 400000 in
theorem rlen_nil (w : World) : Calls Try.prog 27 #[.pointer none] w fun e w' => e = .returned (.int .i64 0) ∧ w' = w := by
  go_enter Try.func27, Try.ntmps27
  go_wp2_with fail
  refine (rthere_nil w).mono ?_
  rintro e w1 ⟨rfl, hw1⟩
  have hw1' := hw1.symm
  subst hw1'
  go_wp2
  go_ret
  exact ⟨rfl, rfl⟩
set_option maxHeartbeats 400000 in
theorem rgone_nil (w : World) : Calls Try.prog 66 #[.pointer none] w fun e w' => e = .returned (.int .i64 0) ∧ w' = w := by
  go_enter Try.func66, Try.ntmps66
  go_wp2_with fail
  refine (rthere_nil w).mono ?_
  rintro e w1 ⟨rfl, hw1⟩
  have hw1' := hw1.symm
  subst hw1'
  go_wp2
  go_ret
  exact ⟨rfl, rfl⟩
set_option maxHeartbeats 400000 in
theorem rarity_any {B : Nat} {w : World} {b : Nat} {v : Value} {ar gone : Nat} {xs : List Rw} (h : RefI B w b v ar gone xs) :
    Calls Try.prog 65 #[.pointer (some ⟨b, 0, none⟩)] w fun e w' => e = .returned (.int .i64 (ar : Nat)) ∧ w' = w := by
  have H := Lib.hid h
  obtain ⟨A, cap, rfl, hcl, hcm⟩ := h.list.rep.form
  have c1 : w.cell? ⟨b, 1, none⟩ = some (.int .i64 ar) := cell_at h.blk 1 _ rfl
  have c2 : w.cell? ⟨b, 2, none⟩ = some (.slice A xs.length cap) := cell_at h.blk 2 _ rfl
  have c3 : w.cell? ⟨b, 3, none⟩ = some (.int .i64 gone) := cell_at h.blk 3 _ rfl
  clear h
  go_enter Try.func65, Try.ntmps65
  go_wp2_with fail
  refine (rthere_any H.out).mono ?_
  rintro e w1 ⟨rfl, hw1⟩
  have hw1' := hw1.symm
  subst hw1'
  go_wp2
  go_ret
  exact ⟨rfl, rfl⟩
set_option maxHeartbeats 400000 in
theorem rlen_any {B : Nat} {w : World} {b : Nat} {v : Value} {ar gone : Nat} {xs : List Rw} (h : RefI B w b v ar gone xs) :
    Calls Try.prog 27 #[.pointer (some ⟨b, 0, none⟩)] w fun e w' => e = .returned (.int .i64 (xs.length : Nat)) ∧ w' = w := by
  have H := Lib.hid h
  obtain ⟨A, cap, rfl, hcl, hcm⟩ := h.list.rep.form
  have c1 : w.cell? ⟨b, 1, none⟩ = some (.int .i64 ar) := cell_at h.blk 1 _ rfl
  have c2 : w.cell? ⟨b, 2, none⟩ = some (.slice A xs.length cap) := cell_at h.blk 2 _ rfl
  have c3 : w.cell? ⟨b, 3, none⟩ = some (.int .i64 gone) := cell_at h.blk 3 _ rfl
  clear h
  go_enter Try.func27, Try.ntmps27
  go_wp2_with fail
  refine (rthere_any H.out).mono ?_
  rintro e w1 ⟨rfl, hw1⟩
  have hw1' := hw1.symm
  subst hw1'
  go_wp2
  go_ret
  exact ⟨rfl, rfl⟩
set_option maxHeartbeats 400000 in
theorem rgone_any {B : Nat} {w : World} {b : Nat} {v : Value} {ar gone : Nat} {xs : List Rw} (h : RefI B w b v ar gone xs) :
    Calls Try.prog 66 #[.pointer (some ⟨b, 0, none⟩)] w fun e w' => e = .returned (.int .i64 (gone : Nat)) ∧ w' = w := by
  have H := Lib.hid h
  obtain ⟨A, cap, rfl, hcl, hcm⟩ := h.list.rep.form
  have c1 : w.cell? ⟨b, 1, none⟩ = some (.int .i64 ar) := cell_at h.blk 1 _ rfl
  have c2 : w.cell? ⟨b, 2, none⟩ = some (.slice A xs.length cap) := cell_at h.blk 2 _ rfl
  have c3 : w.cell? ⟨b, 3, none⟩ = some (.int .i64 gone) := cell_at h.blk 3 _ rfl
  clear h
  go_enter Try.func66, Try.ntmps66
  go_wp2_with fail
  refine (rthere_any H.out).mono ?_
  rintro e w1 ⟨rfl, hw1⟩
  have hw1' := hw1.symm
  subst hw1'
  go_wp2
  go_ret
  exact ⟨rfl, rfl⟩
set_option maxHeartbeats 400000 in
theorem rnew_any (ar : Nat) (har : ar ≤ 24) (w : World) :
    Calls Try.prog 24 #[.int .i64 ar] w fun e w' => ∃ b, e = .returned (.tuple #[.pointer (some ⟨b, 0, none⟩), .int .i64 0]) ∧ RefI w.heap.size w' b (.slice none 0 0) ar 0 [] ∧ Fut w w' := by
  have e1 : ¬ (ar : Int) < 0 := by omega
  have e2 : ¬ (24 : Int) < ar := by omega
  have e3 : ¬ 24 < ar := by omega
  go_enter Try.func24, Try.ntmps24
  go_wp2
  go_ret2
  exact ⟨_, rfl, ⟨heap_alloc_new w _, OwnL.nil, fun k hk => (by cases hk), Nat.le_refl _⟩, Fut.alloc _ _⟩
set_option maxHeartbeats 400000 in
theorem rnew_bad (ar : Int) (h : ar < 0 ∨ 24 < ar) (w : World) :
    Calls Try.prog 24 #[.int .i64 ar] w fun e w' => e = .returned (.tuple #[.pointer none, .int .i64 1]) ∧ w' = w := by
  go_enter Try.func24, Try.ntmps24
  rcases h with h | h
  · go_wp2
    go_ret2
    exact ⟨rfl, rfl⟩
  · have e1 : ¬ ar < 0 := by omega
    go_wp2
    go_ret2
    exact ⟨rfl, rfl⟩
set_option maxHeartbeats 400000 in
theorem rclone_nil (w : World) : Calls Try.prog 25 #[.pointer none] w fun e w' => e = .returned (.pointer none) ∧ w' = w := by
  go_enter Try.func25, Try.ntmps25
  go_wp2_with fail
  refine (rthere_nil w).mono ?_
  rintro e w1 ⟨rfl, hw1⟩
  have hw1' := hw1.symm
  subst hw1'
  go_wp2
  go_ret
  exact ⟨rfl, rfl⟩
set_option maxHeartbeats 800000 in
set_option maxRecDepth 100000 in
theorem rclone_any {B : Nat} {w : World} {b : Nat} {v : Value} {ar gone : Nat} {xs : List Rw} (h : RefI B w b v ar gone xs) (hl : xs.length ≤ 1407374883512) :
    Calls Try.prog 25 #[.pointer (some ⟨b, 0, none⟩)] w fun e w' => ∃ b' v', e = .returned (.pointer (some ⟨b', 0, none⟩)) ∧ RefI w.heap.size w' b' v' ar 0 xs ∧ Fut w w' := by
  have H := Lib.hid h
  obtain ⟨A, cap, rfl, hcl, hcm⟩ := h.list.rep.form
  have c1 : w.cell? ⟨b, 1, none⟩ = some (.int .i64 ar) := cell_at h.blk 1 _ rfl
  have c2 : w.cell? ⟨b, 2, none⟩ = some (.slice A xs.length cap) := cell_at h.blk 2 _ rfl
  clear h
  go_enter Try.func25, Try.ntmps25
  go_wp2_with fail
  refine (rthere_any H.out).mono ?_
  rintro e w1 ⟨rfl, hw1⟩
  have hw1' := hw1.symm
  subst hw1'
  go_wp2_with fail
  refine wp_graph 9 [.d, .d, .d, .d, .d, .d, .d, .d, .r (fun v w' => OwnL 24 w.heap.size 32 RR w' v xs)] (by kernel_rfl) (by kernel_rfl) (by kernel_rfl) ?_
  simp only [List.take_succ_cons, List.take_zero, List.drop_succ_cons, List.drop_zero, Exs]
  iterate 8 apply Exists.intro
  apply Run.valG (wanted_none rfl _)
  · intro w1 h1 hk
    have q1 := h1.cell c1; have q2 := h1.cell c2; have hg := (Fut.drew _).trans h1
    have hcw := fun b o => Below.cell (p := ⟨b, o, none⟩) h1
    go_simp; rfl
  simp only [Act.put, List.setIfInBounds_toArray, List.set_cons_succ, List.set_cons_zero, List.nil_append, List.cons_append]
  apply Run.valG (wanted_none rfl _)
  · intro w1 h1 hk
    have q1 := h1.cell c1; have q2 := h1.cell c2; have hg := (Fut.drew _).trans h1
    have hcw := fun b o => Below.cell (p := ⟨b, o, none⟩) h1
    go_simp; rfl
  simp only [Act.put, List.setIfInBounds_toArray, List.set_cons_succ, List.set_cons_zero, List.nil_append, List.cons_append]
  apply Run.valG (wanted_none rfl _)
  · intro w1 h1 hk
    have q1 := h1.cell c1; have q2 := h1.cell c2; have hg := (Fut.drew _).trans h1
    have hcw := fun b o => Below.cell (p := ⟨b, o, none⟩) h1
    go_simp; rfl
  simp only [Act.put, List.setIfInBounds_toArray, List.set_cons_succ, List.set_cons_zero, List.nil_append, List.cons_append]
  apply Run.valG (wanted_none rfl _)
  · intro w1 h1 hk
    have q1 := h1.cell c1; have q2 := h1.cell c2; have hg := (Fut.drew _).trans h1
    have hcw := fun b o => Below.cell (p := ⟨b, o, none⟩) h1
    go_simp; rfl
  simp only [Act.put, List.setIfInBounds_toArray, List.set_cons_succ, List.set_cons_zero, List.nil_append, List.cons_append]
  apply Run.valG (wanted_none rfl _)
  · intro w1 h1 hk
    have q1 := h1.cell c1; have q2 := h1.cell c2; have hg := (Fut.drew _).trans h1
    have hcw := fun b o => Below.cell (p := ⟨b, o, none⟩) h1
    go_simp; rfl
  simp only [Act.put, List.setIfInBounds_toArray, List.set_cons_succ, List.set_cons_zero, List.nil_append, List.cons_append]
  apply Run.valG (wanted_none rfl _)
  · intro w1 h1 hk
    have q1 := h1.cell c1; have q2 := h1.cell c2; have hg := (Fut.drew _).trans h1
    have hcw := fun b o => Below.cell (p := ⟨b, o, none⟩) h1
    go_simp; rfl
  simp only [Act.put, List.setIfInBounds_toArray, List.set_cons_succ, List.set_cons_zero, List.nil_append, List.cons_append]
  apply Run.valG (wanted_none rfl _)
  · intro w1 h1 hk
    have q1 := h1.cell c1; have q2 := h1.cell c2; have hg := (Fut.drew _).trans h1
    have hcw := fun b o => Below.cell (p := ⟨b, o, none⟩) h1
    go_simp; rfl
  simp only [Act.put, List.setIfInBounds_toArray, List.set_cons_succ, List.set_cons_zero, List.nil_append, List.cons_append]
  apply Run.valG (wanted_none rfl _)
  · intro w1 h1 hk
    have q1 := h1.cell c1; have q2 := h1.cell c2; have hg := (Fut.drew _).trans h1
    have hcw := fun b o => Below.cell (p := ⟨b, o, none⟩) h1
    go_simp; rfl
  simp only [Act.put, List.setIfInBounds_toArray, List.set_cons_succ, List.set_cons_zero, List.nil_append, List.cons_append]
  apply Run.valR (wanted_none rfl _) (by intro v w w' hf hs; exact hs.fut RR.stays hf)
  · intro w1 h1 hk
    have q1 := h1.cell c1; have q2 := h1.cell c2; have hg := (Fut.drew _).trans h1
    exact exec_append_new _ _ rfl Try.underlying25 infoR rfl rfl (H.out.fut hg).list.rep hl hg.size
  intro v8
  simp only [Act.put, List.setIfInBounds_toArray, List.set_cons_succ, List.set_cons_zero, List.nil_append, List.cons_append]
  apply Run.done
  intro w2 h2 hk
  obtain ⟨f8, _⟩ := hk
  obtain ⟨A8, cap8, rfl, _, _⟩ := f8.rep.form
  have F2 := (Fut.drew w).trans h2
  have hlt : ∀ k, (Value.slice A8 xs.length cap8).ownBlock = some k → k < w2.heap.size := fun k hk => (f8.block k hk).2
  go_wp2
  go_ret
  exact ⟨_, _, rfl, ⟨heap_alloc_new w2 _, f8.fut RR.stays (Fut.alloc _ _), fun k hk => Nat.ne_of_lt (hlt k hk), F2.size⟩, F2.trans (Fut.alloc _ _)⟩
end Go.Proofs.Ytcekphjcmippoaa
