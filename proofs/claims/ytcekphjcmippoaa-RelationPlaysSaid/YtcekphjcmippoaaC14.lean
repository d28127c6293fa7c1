/- RefH, BothA, BothB -/
import Derived.Test.YtcekphjcmippoaaC13
/- The document's relation: Sorted. -/
namespace Go.Proofs.Ytcekphjcmippoaa
open Go.RowKit Go.WideMaps
set_option linter.unusedSimpArgs false
set_option linter.unusedVariables false

set_option maxHeartbeats 1600000 in
set_option maxRecDepth 100000 in
theorem rsorted_any {B : Nat} {w : World} {b : Nat} {v : Value} {ar gone : Nat} {xs : List Rw} (h : RefI B w b v ar gone xs) (hn : xs.Nodup) (hl : xs.length ≤ 1407374883512) {ys : List Rw} (hp : ys.Perm xs) (hs : Sorted cmpR ys) :
    Calls Try.prog 55 #[.pointer (some ⟨b, 0, none⟩)] w fun e w' => ∃ u, e = .returned u ∧ SlRep 24 maxLen RR w' u ys ∧ Fut w w' := by
  have H := Lib.hid h
  have hoks := rows_ok h.list.rep
  obtain ⟨A, cap, rfl, hcl, hcm⟩ := h.list.rep.form
  have c2 : w.cell? ⟨b, 2, none⟩ = some (.slice A xs.length cap) := cell_at h.blk 2 _ rfl
  obtain ⟨i0, hi0, hz0, hz1, hz2⟩ := info_parts infoR
  have hmk : ∀ W : World, (Instr.makeSlice 25 (.int .i64 (xs.length : Int)) (.int .i64 (xs.length : Int))).run Try.prog W =
      .ok (.slice (some ⟨W.heap.size, 0, none⟩) xs.length xs.length) (W.alloc (.cells (madeCells (Rw.val zeroRow).cells (xs.length * 24)) 32)) := fun W => by
    have := run_make_rowN (P := Try.prog) 25 32 i0 _ Try.underlying25 hi0 hz0 .i64 .i64 xs.length xs.length (Nat.le_refl _) (by rw [hz2]; omega) (by omega) W
    rw [hz1] at this
    exact this
  have hb := RBlk.made w 32 xs.length
  generalize madeCells (Rw.val zeroRow).cells (xs.length * 24) = mc at hmk hb
  clear h
  go_enter Try.func55, Try.ntmps55
  go_wp2_with fail
  refine (rlen_any H.out).mono ?_
  rintro e w1 ⟨rfl, hw1⟩
  have hw1' := hw1.symm
  subst hw1'
  go_wp2_with fail
  have F1 := Fut.alloc w (.cells mc 32)
  obtain ⟨w1, hW⟩ : ∃ W1, w.alloc (.cells mc 32) = W1 := ⟨_, rfl⟩
  rw [hW] at hb F1 ⊢
  have hw1 : w.heap.size < w1.heap.size := by rw [← hW]; simp
  clear hW hmk
  have HF := Lib.hid F1
  have HB := Lib.hid hb
  have hml : xs.length ≤ maxLen := by unfold maxLen; omega
  clear F1 hb
  go_loopw [4] (fun i wr => ∃ (k : Nat) (zs : List Rw), k ≤ xs.length ∧ i = .int .i64 k ∧ zs.length = xs.length ∧ Hid (RBlk wr w.heap.size 32 zs) ∧ Hid (∀ j (h : j < k) (h' : j < xs.length), zs[rankR xs xs[j]]? = some xs[j]) ∧ Hid (Only (fun j => j = w.heap.size) w1 wr)) (fun i _ => xs.length - (intOf i).toNat)
  case atStart => exact ⟨0, _, Nat.zero_le _, rfl, by simp, HB, Lib.hid (fun j h => absurd h (by omega)), Lib.hid (Only.refl _)⟩
  case round =>
    obtain ⟨k, zs, hk, rfl, hzl, hBl, hZ, hG⟩ := hrel
    have HFr := Lib.hid (((Only.fut HF.out).trans (hG.out.mono (S' := fun j => w.heap.size ≤ j) fun j _ hj => Nat.le_of_eq hj.symm)).toFut fun j hj => hj)
    have HR := Lib.hid (H.out.fut HFr.out)
    have c2' := HFr.out.cell c2
    obtain ⟨wq, hwq⟩ : ∃ x, x = wr := ⟨_, rfl⟩
    subst hwq
    go_wp2_with fail
    refine (rlen_any HR.out).mono ?_
    rintro e w2 ⟨rfl, hw2⟩
    have hw2' := hw2.symm
    subst hw2'
    by_cases hlt : k < xs.length
    · have hltI : (k : Int) < xs.length := by omega
      have e1 : (0 : Int) ≤ k ∧ (k : Int) < xs.length := by omega
      have hxm := List.getElem_mem hlt
      have hrl := rank_lt hxm
      obtain ⟨gb, off, rfl, hrk⟩ := rows_at HR.out.list.rep hlt
      have hyo := hrk.1
      have hZk := Lib.hid (show ∀ j (h : j < k + 1) (h' : j < xs.length), (zs.set (rankR xs xs[k]) xs[k])[rankR xs xs[j]]? = some xs[j] from fun j h h' => by
        by_cases hjk : j = k
        · subst hjk
          rw [List.getElem?_set_self (by omega)]
        · have hne : rankR xs xs[k] ≠ rankR xs xs[j] := fun e => by
            have hu := up_of_sorted hs (hp.nodup_iff.2 hn)
            obtain ⟨a, ha, ea⟩ := List.getElem_of_mem (hp.mem_iff.2 hxm)
            obtain ⟨c, hc, ec⟩ := List.getElem_of_mem (hp.mem_iff.2 (List.getElem_mem h'))
            rw [← ea, ← ec, ← rank_perm hp, ← rank_perm hp, rank_at hu ha, rank_at hu hc] at e
            subst e
            exact hjk ((List.getElem_inj hn).1 (ec.symm.trans ea))
          rw [List.getElem?_set_ne hne]
          exact hZ.out j (by omega) h')
      have HRank := Lib.hid (rfl : rankR xs xs[k] = rankR xs xs[k])
      generalize xs[k] = y at hrk hyo hZk hrl hxm HRank
      go_wp2
      go_loopw [5, 6] (fun c j wr => ∃ q : Nat, q ≤ xs.length ∧ j = .int .i64 q ∧ c = .int .i64 ((rankR (xs.take q) y : Nat) : Int) ∧ Hid (Fut wq wr)) (fun _ j _ => xs.length - (intOf j).toNat)
      case atStart => exact ⟨0, Nat.zero_le _, rfl, by simp [rankR], Lib.hid (Fut.refl _)⟩
      case round =>
        obtain ⟨q, hq, rfl, rfl, hQ⟩ := hrel
        have HRq := Lib.hid (HR.out.fut hQ.out)
        have c2q := hQ.out.cell c2'
        obtain ⟨wp, hwp⟩ : ∃ x, x = wr := ⟨_, rfl⟩
        subst hwp
        go_wp2_with fail
        refine (rlen_any HRq.out).mono ?_
        rintro e w3 ⟨rfl, hw3⟩
        have hw3' := hw3.symm
        subst hw3'
        by_cases hqlt : q < xs.length
        · have hqltI : (q : Int) < xs.length := by omega
          have e2 : (0 : Int) ≤ q ∧ (q : Int) < xs.length := by omega
          obtain ⟨gb', off', hA, hrq⟩ := rows_at HRq.out.list.rep hqlt
          injection hA with hA
          injection hA with hA1 hA2
          subst hA1 hA2
          have hrkq := hrk.fut hQ.out
          have htk : rankR (xs.take (q + 1)) y = rankR (xs.take q) y + if cmpR xs[q] y < 0 then 1 else 0 := by
            unfold rankR
            rw [List.take_succ_eq_append_getElem hqlt, List.countP_append, List.countP_singleton]
            simp
          have hcb : rankR (xs.take q) y ≤ q := by
            have := List.countP_le_length (p := fun z => decide (cmpR z y < 0)) (l := xs.take q)
            unfold rankR
            rw [List.length_take] at this
            omega
          generalize xs[q] = z at hrq htk
          have hzo := hrq.1
          have HBel := Lib.hid (fun W => below_any z y W hzo hyo)
          go_wp2_with fail
          refine wp_graph 15 [.d, .d, .d, .d, .d, .d, .d, .d, .d, .d, .d, .d, .d, .d, .d] (by kernel_rfl) (by kernel_rfl) (by kernel_rfl) ?_
          simp only [List.take_succ_cons, List.take_zero, List.drop_succ_cons, List.drop_zero, Exs]
          iterate 15 apply Exists.intro
          apply Run.valG (wanted_none rfl _)
          · intro w1 h1 hk
            have hg := (Fut.drew _).trans h1; have q2 := h1.cell c2q
            have hcw := fun b o => Below.cell (p := ⟨b, o, none⟩) h1
            go_simp; rfl
          simp only [Act.put, List.setIfInBounds_toArray, List.set_cons_succ, List.set_cons_zero, List.nil_append, List.cons_append]
          apply Run.valG (wanted_none rfl _)
          · intro w1 h1 hk
            have hg := (Fut.drew _).trans h1; have q2 := h1.cell c2q
            have hcw := fun b o => Below.cell (p := ⟨b, o, none⟩) h1
            go_simp; rfl
          simp only [Act.put, List.setIfInBounds_toArray, List.set_cons_succ, List.set_cons_zero, List.nil_append, List.cons_append]
          apply Run.valG (wanted_none rfl _)
          · intro w1 h1 hk
            have hg := (Fut.drew _).trans h1; have q2 := h1.cell c2q
            have hcw := fun b o => Below.cell (p := ⟨b, o, none⟩) h1
            go_simp; rfl
          simp only [Act.put, List.setIfInBounds_toArray, List.set_cons_succ, List.set_cons_zero, List.nil_append, List.cons_append]
          apply Run.valG (wanted_none rfl _)
          · intro w1 h1 hk
            have hg := (Fut.drew _).trans h1; have q2 := h1.cell c2q
            have hcw := fun b o => Below.cell (p := ⟨b, o, none⟩) h1
            go_simp; rfl
          simp only [Act.put, List.setIfInBounds_toArray, List.set_cons_succ, List.set_cons_zero, List.nil_append, List.cons_append]
          apply Run.valG (wanted_none rfl _)
          · intro w1 h1 hk
            have hg := (Fut.drew _).trans h1; have q2 := h1.cell c2q
            have hcw := fun b o => Below.cell (p := ⟨b, o, none⟩) h1
            go_simp; rfl
          simp only [Act.put, List.setIfInBounds_toArray, List.set_cons_succ, List.set_cons_zero, List.nil_append, List.cons_append]
          apply Run.valG (wanted_none rfl _)
          · intro w1 h1 hk
            have hg := (Fut.drew _).trans h1; have q2 := h1.cell c2q
            have hcw := fun b o => Below.cell (p := ⟨b, o, none⟩) h1
            go_simp; rfl
          simp only [Act.put, List.setIfInBounds_toArray, List.set_cons_succ, List.set_cons_zero, List.nil_append, List.cons_append]
          apply Run.valG (wanted_none rfl _)
          · intro w1 h1 hk
            have hg := (Fut.drew _).trans h1; have q2 := h1.cell c2q
            have hcw := fun b o => Below.cell (p := ⟨b, o, none⟩) h1
            exact exec_load_R rowTy _ rfl rfl (hrq.fut hg)
          simp only [Act.put, List.setIfInBounds_toArray, List.set_cons_succ, List.set_cons_zero, List.nil_append, List.cons_append]
          apply Run.valG (wanted_none rfl _)
          · intro w1 h1 hk
            have hg := (Fut.drew _).trans h1; have q2 := h1.cell c2q
            have hcw := fun b o => Below.cell (p := ⟨b, o, none⟩) h1
            go_simp; rfl
          simp only [Act.put, List.setIfInBounds_toArray, List.set_cons_succ, List.set_cons_zero, List.nil_append, List.cons_append]
          apply Run.valG (wanted_none rfl _)
          · intro w1 h1 hk
            have hg := (Fut.drew _).trans h1; have q2 := h1.cell c2q
            have hcw := fun b o => Below.cell (p := ⟨b, o, none⟩) h1
            go_simp; rfl
          simp only [Act.put, List.setIfInBounds_toArray, List.set_cons_succ, List.set_cons_zero, List.nil_append, List.cons_append]
          apply Run.valG (wanted_none rfl _)
          · intro w1 h1 hk
            have hg := (Fut.drew _).trans h1; have q2 := h1.cell c2q
            have hcw := fun b o => Below.cell (p := ⟨b, o, none⟩) h1
            go_simp; rfl
          simp only [Act.put, List.setIfInBounds_toArray, List.set_cons_succ, List.set_cons_zero, List.nil_append, List.cons_append]
          apply Run.valG (wanted_none rfl _)
          · intro w1 h1 hk
            have hg := (Fut.drew _).trans h1; have q2 := h1.cell c2q
            have hcw := fun b o => Below.cell (p := ⟨b, o, none⟩) h1
            go_simp; rfl
          simp only [Act.put, List.setIfInBounds_toArray, List.set_cons_succ, List.set_cons_zero, List.nil_append, List.cons_append]
          apply Run.valG (wanted_none rfl _)
          · intro w1 h1 hk
            have hg := (Fut.drew _).trans h1; have q2 := h1.cell c2q
            have hcw := fun b o => Below.cell (p := ⟨b, o, none⟩) h1
            go_simp; rfl
          simp only [Act.put, List.setIfInBounds_toArray, List.set_cons_succ, List.set_cons_zero, List.nil_append, List.cons_append]
          apply Run.valG (wanted_none rfl _)
          · intro w1 h1 hk
            have hg := (Fut.drew _).trans h1; have q2 := h1.cell c2q
            have hcw := fun b o => Below.cell (p := ⟨b, o, none⟩) h1
            go_simp; rfl
          simp only [Act.put, List.setIfInBounds_toArray, List.set_cons_succ, List.set_cons_zero, List.nil_append, List.cons_append]
          apply Run.valG (wanted_none rfl _)
          · intro w1 h1 hk
            have hg := (Fut.drew _).trans h1; have q2 := h1.cell c2q
            have hcw := fun b o => Below.cell (p := ⟨b, o, none⟩) h1
            exact exec_load_R rowTy _ rfl rfl (hrkq.fut hg)
          simp only [Act.put, List.setIfInBounds_toArray, List.set_cons_succ, List.set_cons_zero, List.nil_append, List.cons_append]
          apply Run.call (wanted_none rfl _) (fun _ _ => by go_simp; exact ⟨rfl, rfl⟩)
          · intro w1 h1 hk
            have hg := (Fut.drew _).trans h1; have q2 := h1.cell c2q
            exact HBel.out _
          simp only [Act.put, List.setIfInBounds_toArray, List.set_cons_succ, List.set_cons_zero, List.nil_append, List.cons_append]
          apply Run.done
          intro wa ha hk
          clear hk
          have hQa := Lib.hid (hQ.out.trans ((Fut.drew _).trans ha))
          by_cases he : cmpR z y < 0
          · rw [if_pos he] at htk
            rw [decide_eq_true he]
            go_wp2
            go_roundw
            case rel => exact ⟨q + 1, by omega, by go_num, by rw [htk] <;> go_num, hQa⟩
            case measure => simp [intOf] <;> omega
          · rw [if_neg he] at htk
            rw [decide_eq_false he]
            go_wp2
            go_roundw
            case rel => exact ⟨q + 1, by omega, by go_num, by rw [htk] <;> rfl, hQa⟩
            case measure => simp [intOf] <;> omega
        · obtain rfl : q = xs.length := by omega
          rw [List.take_length]
          have hBq := hBl.out.fut hQ.out
          have hrkq := hrk.fut hQ.out
          generalize rankR xs y = rk at hrl hZk
          have e3 : (0 : Int) ≤ rk ∧ (rk : Int) < xs.length := by omega
          go_wp2_with (first | (refine wpList_load_R rowTy (wanted_none rfl _) _ rfl rfl hrkq ?_) | (refine wpList_store_at rowTy (wanted_none rfl _) _ _ rfl rfl rfl hBq (by omega) hyo ?_; intro w6 hB6 hO6))
          go_roundw
          case rel => exact ⟨k + 1, _, by omega, by go_num, by rw [List.length_set]; exact hzl, Lib.hid hB6, hZk, Lib.hid ((hG.out.trans (Only.fut hQ.out)).trans hO6)⟩
          case measure => simp [intOf] <;> omega
    · obtain rfl : k = xs.length := by omega
      have hze := ranked hp hs hn hzl (fun j h => hZ.out j h h)
      have hrep := hBl.out.rep (by rw [hzl]; exact hml)
      rw [hzl, hze] at hrep
      go_wp2
      go_ret
      exact ⟨_, rfl, hrep, HFr.out⟩
set_option maxHeartbeats 400000 in
set_option maxRecDepth 100000 in
theorem rsorted_nil (w : World) : Calls Try.prog 55 #[.pointer none] w fun e w' => ∃ u, e = .returned u ∧ SlRep 24 maxLen RR w' u [] ∧ Fut w w' := by
  obtain ⟨i0, hi0, hz0, hz1, hz2⟩ := info_parts infoR
  have hmk : ∀ W : World, (Instr.makeSlice 25 (.int .i64 0) (.int .i64 0)).run Try.prog W =
      .ok (.slice (some ⟨W.heap.size, 0, none⟩) 0 0) (W.alloc (.cells (madeCells (Rw.val zeroRow).cells (0 * 24)) 32)) := fun W => by
    have := run_make_rowN (P := Try.prog) 25 32 i0 _ Try.underlying25 hi0 hz0 .i64 .i64 0 0 (Nat.le_refl _) (by omega) (by omega) W
    rw [hz1] at this
    exact this
  generalize madeCells (Rw.val zeroRow).cells (0 * 24) = mc at hmk
  go_enter Try.func55, Try.ntmps55
  go_wp2_with fail
  refine (rlen_nil _).mono ?_
  rintro e w1 ⟨rfl, hw1⟩
  have hw1' := hw1.symm
  subst hw1'
  go_wp2_with fail
  have F1 := Fut.alloc w (.cells mc 32)
  obtain ⟨w1, hW⟩ : ∃ W1, w.alloc (.cells mc 32) = W1 := ⟨_, rfl⟩
  rw [hW] at F1 ⊢
  clear hW hmk
  have HF := Lib.hid F1
  clear F1
  go_loopw [4] (fun i wr => i = .int .i64 0 ∧ wr = w1) (fun i _ => 1)
  case atStart => exact ⟨rfl, rfl⟩
  case round =>
    obtain ⟨rfl, rfl⟩ := hrel
    obtain ⟨wq, hwq⟩ : ∃ x, x = wr := ⟨_, rfl⟩
    subst hwq
    go_wp2_with fail
    refine (rlen_nil _).mono ?_
    rintro e w1 ⟨rfl, hw1⟩
    have hw1' := hw1.symm
    subst hw1'
    go_wp2
    go_ret
    exact ⟨_, rfl, ⟨_, _, rfl, Nat.le_refl _, Nat.zero_le _, fun i x hx => by simp at hx⟩, HF.out⟩
end Go.Proofs.Ytcekphjcmippoaa
/- The program's relation and the document's, each there or not: what each call answers, in the same words. -/
namespace Go.Proofs.Ytcekphjcmippoaa
open Go.RowKit Go.WideMaps
set_option linter.unusedSimpArgs false
set_option linter.unusedVariables false

/-- What a relation holds. -/
structure RSt where
  ar : Nat
  gone : Nat
  xs : List Rw
def arS : Option RSt → Nat
  | none => 0
  | some s => s.ar
def goneS : Option RSt → Nat
  | none => 0
  | some s => s.gone
def rowsS : Option RSt → List Rw
  | none => []
  | some s => s.xs
def addC (S : Option RSt) (x : Rw) : Bool := match S with
  | none => false
  | some s => rightP s.ar x && !decide (x ∈ s.xs)
def addN (S : Option RSt) (x : Rw) : Int := match S with
  | none => 2
  | some s => rowErr (rightP s.ar x)
def addS (S : Option RSt) (x : Rw) : Option RSt := S.map fun s => { s with xs := addL s.ar s.xs x }
def remS (S : Option RSt) (x : Rw) : Option RSt := S.map fun s => ⟨s.ar, s.gone + (decide (x ∈ s.xs)).toNat, s.xs.erase x⟩
def selS (S : Option RSt) (m : Nat) (x : Rw) : List Int := match S with
  | none => []
  | some s => selL s.ar m x s.xs
def atR (S : Option RSt) (i : Int) : Rw := if 0 ≤ i ∧ i < (rowsS S).length then (rowsS S).getD i.toNat zeroRow else zeroRow
def atN (S : Option RSt) (i : Int) : Int := match S with
  | none => 2
  | some s => if 0 ≤ i ∧ i < s.xs.length then 0 else 1
def cloneS (S : Option RSt) : Option RSt := S.map fun s => { s with gone := 0 }
theorem le_rows {s : RSt} (hl : (rowsS (some s)).length ≤ 1353244080301) : s.xs.length ≤ 1407374883512 := Nat.le_trans (show s.xs.length ≤ 1353244080301 from hl) (by omega)
def sortS (S : Option RSt) (ys : List Rw) : Prop := ys.Perm (rowsS S) ∧ Sorted cmpR ys

theorem sortS_one {S : Option RSt} (hn : (rowsS S).Nodup) {ys zs : List Rw} (h : sortS S ys) (k : sortS S zs) : ys = zs :=
  Up.uniq totR (up_of_sorted h.2 (h.1.nodup_iff.2 hn)) (up_of_sorted k.2 (k.1.nodup_iff.2 hn)) fun x => (h.1.mem_iff).trans k.1.mem_iff.symm
/-- What was owned, and what was made since. -/
def more (F : Nat → Prop) (w w' : World) (k : Nat) : Prop := F k ∨ (w.heap.size ≤ k ∧ k < w'.heap.size)
/-- The program's relation at p. -/
structure TAt (B : Nat) (w : World) (p : Option Addr) (S : Option RSt) (F : Nat → Prop) : Prop where
  holds : match S with
    | none => TNone w p ∧ ∀ b, p = some ⟨b, 0, none⟩ → F b
    | some s => ∃ b pb mb lv, p = some ⟨b, 0, none⟩ ∧ RelI B w b pb mb lv s.ar s.gone s.xs ∧ ∀ k, foot b pb mb lv k → F k
  lt : ∀ k, F k → k < w.heap.size
/-- The document's relation at p. -/
structure DAt (B : Nat) (w : World) (p : Option Addr) (S : Option RSt) (F : Nat → Prop) : Prop where
  holds : match S with
    | none => p = none
    | some s => ∃ b v, p = some ⟨b, 0, none⟩ ∧ RefI B w b v s.ar s.gone s.xs ∧ s.ar ≤ 24 ∧ s.xs.Nodup ∧ ∀ k, rfoot b v k → F k
  lt : ∀ k, F k → k < w.heap.size
section
variable {B : Nat} {w w' : World} {p : Option Addr} {S : Option RSt} {F G : Nat → Prop}
theorem TAt.fut (h : TAt B w p S F) (hf : Fut w w') : TAt B w' p S F := by
  refine ⟨?_, fun k hk => Nat.lt_of_lt_of_le (h.lt k hk) hf.size⟩
  have := h.holds
  cases S with
  | none => exact ⟨this.1.fut hf, this.2⟩
  | some s => obtain ⟨b, pb, mb, lv, h1, h2, h3⟩ := this; exact ⟨b, pb, mb, lv, h1, h2.fut hf, h3⟩
theorem TAt.only (h : TAt B w p S F) (hf : Only G w w') (hd : ∀ k, F k → ¬ G k) : TAt B w' p S F := by
  refine ⟨?_, fun k hk => Nat.lt_of_lt_of_le (h.lt k hk) hf.size⟩
  have := h.holds
  cases S with
  | none =>
    refine ⟨?_, this.2⟩
    rcases this.1 with h1 | ⟨b, h1, h2⟩
    · exact .inl h1
    · exact .inr ⟨b, h1, hf.keeps h2 (hd b (this.2 b h1))⟩
  | some s => obtain ⟨b, pb, mb, lv, h1, h2, h3⟩ := this; exact ⟨b, pb, mb, lv, h1, h2.only hf fun k hk => hd k (h3 k hk), h3⟩
theorem DAt.fut (h : DAt B w p S F) (hf : Fut w w') : DAt B w' p S F := by
  refine ⟨?_, fun k hk => Nat.lt_of_lt_of_le (h.lt k hk) hf.size⟩
  have := h.holds
  cases S with
  | none => exact this
  | some s => obtain ⟨b, v, h1, h2, h3, h4, h5⟩ := this; exact ⟨b, v, h1, h2.fut hf, h3, h4, h5⟩
theorem DAt.only (h : DAt B w p S F) (hf : Only G w w') (hd : ∀ k, F k → ¬ G k) : DAt B w' p S F := by
  refine ⟨?_, fun k hk => Nat.lt_of_lt_of_le (h.lt k hk) hf.size⟩
  have := h.holds
  cases S with
  | none => exact this
  | some s => obtain ⟨b, v, h1, h2, h3, h4, h5⟩ := this; exact ⟨b, v, h1, h2.only hf fun k hk => hd k (h5 k hk), h3, h4, h5⟩
end
section
variable {B : Nat} {w : World} {p : Option Addr} {S : Option RSt} {F : Nat → Prop}
theorem T_arity (h : TAt B w p S F) : Calls Try.prog 11 #[.pointer p] w fun e w' => e = .returned (.int .i64 ((arS S : Nat) : Int)) ∧ w' = w := by
  have := h.holds
  cases S with
  | none => exact arity_none this.1
  | some s => obtain ⟨b, pb, mb, lv, rfl, h2, h3⟩ := this; exact arity_any h2
theorem T_len (h : TAt B w p S F) : Calls Try.prog 13 #[.pointer p] w fun e w' => e = .returned (.int .i64 (((rowsS S).length : Nat) : Int)) ∧ w' = w := by
  have := h.holds
  cases S with
  | none => exact len_none this.1
  | some s => obtain ⟨b, pb, mb, lv, rfl, h2, h3⟩ := this; exact len_any h2
theorem T_gone (h : TAt B w p S F) : Calls Try.prog 12 #[.pointer p] w fun e w' => e = .returned (.int .i64 ((goneS S : Nat) : Int)) ∧ w' = w := by
  have := h.holds
  cases S with
  | none => exact gone_none this.1
  | some s => obtain ⟨b, pb, mb, lv, rfl, h2, h3⟩ := this; exact gone_any h2
theorem D_arity (h : DAt B w p S F) : Calls Try.prog 65 #[.pointer p] w fun e w' => e = .returned (.int .i64 ((arS S : Nat) : Int)) ∧ w' = w := by
  have := h.holds
  cases S with
  | none => subst this; exact rarity_nil w
  | some s => obtain ⟨b, v, rfl, h2, h3⟩ := this; exact rarity_any h2
theorem D_len (h : DAt B w p S F) : Calls Try.prog 27 #[.pointer p] w fun e w' => e = .returned (.int .i64 (((rowsS S).length : Nat) : Int)) ∧ w' = w := by
  have := h.holds
  cases S with
  | none => subst this; exact rlen_nil w
  | some s => obtain ⟨b, v, rfl, h2, h3⟩ := this; exact rlen_any h2
theorem D_gone (h : DAt B w p S F) : Calls Try.prog 66 #[.pointer p] w fun e w' => e = .returned (.int .i64 ((goneS S : Nat) : Int)) ∧ w' = w := by
  have := h.holds
  cases S with
  | none => subst this; exact rgone_nil w
  | some s => obtain ⟨b, v, rfl, h2, h3⟩ := this; exact rgone_any h2
theorem T_has (h : TAt B w p S F) (x : Rw) (hx : Rw.ok x) : Calls Try.prog 19 #[.pointer p, Rw.val x] w fun e w' => e = .returned (.bool (decide (x ∈ rowsS S))) ∧ Fut w w' := by
  have := h.holds
  cases S with
  | none => rw [show decide (x ∈ rowsS none) = false by simp [rowsS]]; exact has_none this.1 x hx
  | some s => obtain ⟨b, pb, mb, lv, rfl, h2, h3⟩ := this; exact has_any h2 x hx
theorem D_has (h : DAt B w p S F) (hl : (rowsS S).length ≤ 1353244080301) (x : Rw) (hx : Rw.ok x) : Calls Try.prog 44 #[.pointer p, Rw.val x] w fun e w' => e = .returned (.bool (decide (x ∈ rowsS S))) ∧ Fut w w' := by
  have := h.holds
  cases S with
  | none => subst this; rw [show decide (x ∈ rowsS none) = false by simp [rowsS]]; exact rhas_nil x hx
  | some s => obtain ⟨b, v, rfl, h2, h3⟩ := this; exact rhas_any h2 (le_rows hl) x hx
theorem at_cases (s : RSt) (i : Int) : (∃ k : Nat, ∃ h : k < s.xs.length, i = k ∧ atR (some s) i = s.xs[k] ∧ atN (some s) i = 0) ∨ ((i < 0 ∨ (s.xs.length : Int) ≤ i) ∧ atR (some s) i = zeroRow ∧ atN (some s) i = 1) := by
  by_cases h : 0 ≤ i ∧ i < s.xs.length
  · left
    refine ⟨i.toNat, by omega, by omega, ?_, ?_⟩
    · unfold atR rowsS
      rw [if_pos h]
      have h2 : i.toNat < s.xs.length := by omega
      simp [List.getD, h2]
    · unfold atN
      exact if_pos h
  · right
    refine ⟨by omega, ?_, ?_⟩
    · unfold atR rowsS
      rw [if_neg h]
    · unfold atN
      exact if_neg h
theorem T_at (h : TAt B w p S F) (i : Int) : Calls Try.prog 16 #[.pointer p, .int .i64 i] w fun e w' => e = .returned (.tuple #[Rw.val (atR S i), .int .i64 (atN S i)]) ∧ Fut w w' := by
  have := h.holds
  cases S with
  | none =>
    rw [show atR none i = zeroRow by unfold atR; split <;> rfl]
    exact at_none this.1 i
  | some s =>
    obtain ⟨b, pb, mb, lv, rfl, h2, h3⟩ := this
    rcases at_cases s i with ⟨k, hk, rfl, e1, e2⟩ | ⟨hb, e1, e2⟩
    · rw [e1, e2]; exact at_any h2 k hk
    · rw [e1, e2]; exact at_bad h2 i hb
theorem D_at (h : DAt B w p S F) (i : Int) : Calls Try.prog 45 #[.pointer p, .int .i64 i] w fun e w' => e = .returned (.tuple #[Rw.val (atR S i), .int .i64 (atN S i)]) ∧ Fut w w' := by
  have := h.holds
  cases S with
  | none =>
    subst this
    rw [show atR none i = zeroRow by unfold atR; split <;> rfl]
    exact rat_nil i w
  | some s =>
    obtain ⟨b, v, rfl, h2, h3⟩ := this
    rcases at_cases s i with ⟨k, hk, rfl, e1, e2⟩ | ⟨hb, e1, e2⟩
    · rw [e1, e2]; exact rat_ok h2 k hk
    · rw [e1, e2]; exact rat_bad h2 i hb
theorem atR_ok (h : ∀ x ∈ rowsS S, Rw.ok x) (i : Int) : Rw.ok (atR S i) := by
  unfold atR
  split
  · rename_i hi
    have h2 : i.toNat < (rowsS S).length := by omega
    rw [show (rowsS S).getD i.toNat zeroRow = (rowsS S)[i.toNat] by simp [List.getD, h2]]
    exact h _ (List.getElem_mem h2)
  · exact zeroRow_ok
theorem TAt.oks (h : TAt B w p S F) : ∀ x ∈ rowsS S, Rw.ok x := by
  have := h.holds
  cases S with
  | none => intro x hx; cases hx
  | some s => obtain ⟨b, pb, mb, lv, rfl, h2, h3⟩ := this; exact rows_ok h2.pl.list.rep
theorem TAt.nodup (h : TAt B w p S F) : (rowsS S).Nodup := by
  have := h.holds
  cases S with
  | none => exact List.nodup_nil
  | some s => obtain ⟨b, pb, mb, lv, rfl, h2, h3⟩ := this; exact h2.pl.nodup
theorem T_select (h : TAt B w p S F) {m : Nat} (hm : m < 2 ^ 32) (hl : (rowsS S).length ≤ 1353244080301) (x : Rw) (hx : Rw.ok x) : Calls Try.prog 17 #[.pointer p, .int .u32 m, Rw.val x] w fun e w' => ∃ v, e = .returned v ∧ OwnL 1 w.heap.size 3 RI w' v (selS S m x) ∧ Fut w w' := by
  have := h.holds
  cases S with
  | none => exact select_none hm this.1 x hx
  | some s => obtain ⟨b, pb, mb, lv, rfl, h2, h3⟩ := this; exact select_any hm h2 (le_rows hl) x hx
theorem D_select (h : DAt B w p S F) {m : Nat} (hm : m < 2 ^ 32) (hl : (rowsS S).length ≤ 1353244080301) (x : Rw) (hx : Rw.ok x) : Calls Try.prog 48 #[.pointer p, .int .u32 m, Rw.val x] w fun e w' => ∃ v, e = .returned v ∧ OwnL 1 w.heap.size 3 RI w' v (selS S m x) ∧ Fut w w' := by
  have := h.holds
  cases S with
  | none => subst this; exact (rselect_nil m x w).mono fun e w' ⟨h1, h2⟩ => ⟨_, h1, OwnL.nil, h2⟩
  | some s => obtain ⟨b, v, rfl, h2, h3, h4⟩ := this; exact rselect_any h2 h3 hm (le_rows hl) x hx
theorem T_iter (h : TAt B w p S F) (hl : (rowsS S).length ≤ 1353244080301) (f t : Int) (lb : Array Value) (hs : SeqAt w lb (.pointer p) f t) :
    IterAt Try.prog 35 lb (hiS (rowsS S) t - loS f) (spanArgs (rowsS S) f) w := by
  have := h.holds
  cases S with
  | none => exact range_iter_none this.1 f t lb hs
  | some s => obtain ⟨b, pb, mb, lv, rfl, h2, h3⟩ := this; exact range_iter h2 (le_rows hl) f t lb hs
theorem D_range (h : DAt B w p S F) (hl : (rowsS S).length ≤ 1353244080301) (f t : Int) : Calls Try.prog 53 #[.pointer p, .int .i64 f, .int .i64 t] w fun e w' => ∃ u, e = .returned u ∧ OwnL 25 w.heap.size 106 RNb w' u (nbL (rowsS S) f t) ∧ Fut w w' := by
  have := h.holds
  cases S with
  | none => subst this; exact (rrange_nil f t w).mono fun e w' ⟨h1, h2⟩ => ⟨_, h1, (by rw [show nbL (rowsS none) f t = [] by simp [nbL, nbK, rowsS]]; exact OwnL.nil), h2⟩
  | some s => obtain ⟨b, v, rfl, h2, h3⟩ := this; exact rrange_any h2 hl f t
theorem T_sorted (h : TAt B w p S F) (hl : (rowsS S).length ≤ 1353244080301) : Calls Try.prog 21 #[.pointer p] w fun e w' => ∃ v ys, e = .returned v ∧ sortS S ys ∧ SlRep 24 maxLen RR w' v ys ∧ Fut w w' := by
  have := h.holds
  cases S with
  | none => exact (sorted_none this.1).mono fun e w' ⟨h1, h2⟩ => ⟨_, [], h1, ⟨List.Perm.refl _, List.Pairwise.nil⟩, SlRep.nil, h2 ▸ Fut.refl _⟩
  | some s =>
    obtain ⟨b, pb, mb, lv, rfl, h2, h3⟩ := this
    exact (sorted_any h2 (le_rows hl)).mono fun e w' ⟨v, ys, h4, h5, h6, h7, h8⟩ => ⟨v, ys, h4, ⟨h5, h6⟩, h7, h8⟩
theorem D_sorted (h : DAt B w p S F) (hl : (rowsS S).length ≤ 1353244080301) {ys : List Rw} (hy : sortS S ys) : Calls Try.prog 55 #[.pointer p] w fun e w' => ∃ u, e = .returned u ∧ SlRep 24 maxLen RR w' u ys ∧ Fut w w' := by
  have := h.holds
  cases S with
  | none =>
    subst this
    have hn : ys = [] := hy.1.eq_nil
    subst hn
    exact rsorted_nil w
  | some s => obtain ⟨b, v, rfl, h2, h3, h4, h5⟩ := this; exact rsorted_any h2 h4 (le_rows hl) hy.1 hy.2
end
end Go.Proofs.Ytcekphjcmippoaa
/- The program's relation and the document's: Add, Remove, Clone, New. -/
namespace Go.Proofs.Ytcekphjcmippoaa
open Go.RowKit Go.WideMaps
set_option linter.unusedSimpArgs false
set_option linter.unusedVariables false

theorem more_lt {F : Nat → Prop} {w w' : World} (h : ∀ k, F k → k < w.heap.size) (hs : w.heap.size ≤ w'.heap.size) : ∀ k, more F w w' k → k < w'.heap.size := fun k hk => by
  rcases hk with hk | hk
  · have := h k hk; omega
  · exact hk.2
theorem addL_nodup {ar : Nat} {xs : List Rw} {x : Rw} (h : xs.Nodup) : (addL ar xs x).Nodup := by
  unfold addL
  split
  · rename_i hc
    simp only [Bool.and_eq_true, Bool.not_eq_true', decide_eq_false_iff_not] at hc
    rw [List.nodup_append]
    refine ⟨h, by simp, fun a ha b hb => ?_⟩
    rw [List.mem_singleton] at hb
    subst hb
    exact fun e => hc.2 (e ▸ ha)
  · exact h
section
variable {B : Nat} {w : World} {p : Option Addr} {S : Option RSt} {F : Nat → Prop}
theorem T_add (h : TAt B w p S F) (hB : B ≤ w.heap.size) (hl : (rowsS S).length < 1353244080301) (x : Rw) (hx : Rw.ok x) :
    Calls Try.prog 15 #[.pointer p, Rw.val x] w fun e w' => e = .returned (.tuple #[.bool (addC S x), .int .i64 (addN S x)]) ∧ TAt B w' p (addS S x) (more F w w') ∧ Only F w w' := by
  have := h.holds
  have hlt := h.lt
  cases S with
  | none =>
    refine (add_none this.1 x hx).mono fun e w' ⟨h1, h2⟩ => ⟨h1, ⟨⟨this.1.fut h2, fun b hb => .inl (this.2 b hb)⟩, more_lt hlt h2.size⟩, Only.fut h2⟩
  | some s =>
    obtain ⟨b, pb, mb, lv, rfl, h2, h3⟩ := this
    refine (add_any h2 hB x hx (Nat.lt_of_lt_of_le (show s.xs.length < 1353244080301 from hl) (by omega))).mono ?_
    rintro e w' ⟨rfl, lv', hR, hO, hV⟩
    refine ⟨rfl, ⟨⟨b, pb, mb, lv', rfl, hR, fun k hk => ?_⟩, more_lt hlt hO.size⟩, hO.mono fun k _ hk => h3 k (.inr hk)⟩
    have hk2 := hR.lt k hk
    rcases hk with hk | hk | hk | hk
    · exact .inl (h3 k (.inl hk))
    · exact .inl (h3 k (.inr (.inl hk)))
    · exact .inl (h3 k (.inr (.inr (.inl hk))))
    · rcases hV k hk with h' | h'
      · exact .inl (h3 k (.inr h'))
      · exact .inr ⟨h', hk2⟩
theorem D_add (h : DAt B w p S F) (hB : B ≤ w.heap.size) (hl : (rowsS S).length < 1353244080301) (x : Rw) (hx : Rw.ok x) :
    Calls Try.prog 43 #[.pointer p, Rw.val x] w fun e w' => e = .returned (.tuple #[.bool (addC S x), .int .i64 (addN S x)]) ∧ DAt B w' p (addS S x) (more F w w') ∧ Only F w w' := by
  have := h.holds
  have hlt := h.lt
  cases S with
  | none =>
    subst this
    refine (radd_nil x w).mono fun e w' ⟨h1, h2⟩ => ⟨h1, ⟨rfl, more_lt hlt h2.size⟩, Only.fut h2⟩
  | some s =>
    obtain ⟨b, v, rfl, h2, h3, h4, h5⟩ := this
    refine (radd_any h2 hB x hx (Nat.lt_of_lt_of_le (show s.xs.length < 1353244080301 from hl) (by omega))).mono ?_
    rintro e w' ⟨rfl, v', hR, hO, hV⟩
    refine ⟨rfl, ⟨⟨b, v', rfl, hR, h3, addL_nodup h4, fun k hk => ?_⟩, more_lt hlt hO.size⟩, hO.mono fun k _ hk => h5 k hk⟩
    have hk2 := hR.lt k hk
    rcases hk with hk | hk
    · exact .inl (h5 k (.inl hk))
    · rcases hV k hk with h' | h'
      · exact .inl (h5 k h')
      · exact .inr ⟨h', hk2⟩
theorem T_remove (h : TAt B w p S F) (hB : B ≤ w.heap.size) (hl : (rowsS S).length ≤ 1353244080301) (hg : goneS S < 4611686018427387904) (x : Rw) (hx : Rw.ok x) :
    Calls Try.prog 14 #[.pointer p, Rw.val x] w fun e w' => e = .returned (.bool (decide (x ∈ rowsS S))) ∧ TAt B w' p (remS S x) (more F w w') ∧ Only F w w' := by
  have := h.holds
  have hlt := h.lt
  cases S with
  | none =>
    rw [show decide (x ∈ rowsS none) = false by simp [rowsS]]
    refine (remove_none this.1 x hx).mono fun e w' ⟨h1, h2⟩ => ⟨h1, ⟨⟨this.1.fut h2, fun b hb => .inl (this.2 b hb)⟩, more_lt hlt h2.size⟩, Only.fut h2⟩
  | some s =>
    obtain ⟨b, pb, mb, lv, rfl, h2, h3⟩ := this
    refine (remove_any h2 hB x hx (le_rows hl) hg).mono ?_
    rintro e w' ⟨rfl, lv', hR, hO, hV⟩
    refine ⟨rfl, ⟨⟨b, pb, mb, lv', rfl, hR, fun k hk => ?_⟩, more_lt hlt hO.size⟩, hO.mono fun k _ hk => h3 k hk⟩
    have hk2 := hR.lt k hk
    rcases hk with hk | hk | hk | hk
    · exact .inl (h3 k (.inl hk))
    · exact .inl (h3 k (.inr (.inl hk)))
    · exact .inl (h3 k (.inr (.inr (.inl hk))))
    · rcases hV k hk with h' | h'
      · exact .inl (h3 k (.inr h'))
      · exact .inr ⟨h', hk2⟩
theorem D_remove (h : DAt B w p S F) (hB : B ≤ w.heap.size) (hl : (rowsS S).length ≤ 1353244080301) (hg : goneS S < 4611686018427387904) (x : Rw) (hx : Rw.ok x) :
    Calls Try.prog 46 #[.pointer p, Rw.val x] w fun e w' => e = .returned (.bool (decide (x ∈ rowsS S))) ∧ DAt B w' p (remS S x) (more F w w') ∧ Only F w w' := by
  have := h.holds
  have hlt := h.lt
  cases S with
  | none =>
    subst this
    rw [show decide (x ∈ rowsS none) = false by simp [rowsS]]
    refine (rremove_nil x hx w).mono fun e w' ⟨h1, h2⟩ => ⟨h1, ⟨rfl, more_lt hlt h2.size⟩, Only.fut h2⟩
  | some s =>
    obtain ⟨b, v, rfl, h2, h3, h4, h5⟩ := this
    refine (rremove_any h2 hB x hx (le_rows hl) hg).mono ?_
    rintro e w' ⟨rfl, v', hR, hO, hV⟩
    refine ⟨rfl, ⟨⟨b, v', rfl, hR, h3, h4.erase _, fun k hk => ?_⟩, more_lt hlt hO.size⟩, hO.mono fun k _ hk => h5 k hk⟩
    have hk2 := hR.lt k hk
    rcases hk with hk | hk
    · exact .inl (h5 k (.inl hk))
    · rcases hV k hk with h' | h'
      · exact .inl (h5 k h')
      · exact .inr ⟨h', hk2⟩
/-- What a call has made. -/
def made (w w' : World) (k : Nat) : Prop := w.heap.size ≤ k ∧ k < w'.heap.size
theorem T_clone (h : TAt B w p S F) (hl : (rowsS S).length ≤ 1353244080301) :
    Calls Try.prog 10 #[.pointer p] w fun e w' => ∃ q, e = .returned (.pointer q) ∧ TAt w.heap.size w' q (cloneS S) (made w w') ∧ (q = none ↔ S = none) ∧ Fut w w' := by
  have := h.holds
  cases S with
  | none => exact (clone_none this.1).mono fun e w' ⟨h1, h2⟩ => ⟨none, h1, ⟨⟨.inl rfl, fun b hb => (by cases hb)⟩, fun k hk => hk.2⟩, by simp, h2 ▸ Fut.refl _⟩
  | some s =>
    obtain ⟨b, pb, mb, lv, rfl, h2, h3⟩ := this
    refine (clone_any h2 (Nat.lt_of_le_of_lt (show s.xs.length ≤ 1353244080301 from hl) (by omega))).mono ?_
    rintro e w' ⟨b', pb', mb', lv', rfl, hR, hf⟩
    exact ⟨_, rfl, ⟨⟨b', pb', mb', lv', rfl, hR, fun k hk => ⟨hR.ge k hk, hR.lt k hk⟩⟩, fun k hk => hk.2⟩, by simp, hf⟩
theorem D_clone (h : DAt B w p S F) (hl : (rowsS S).length ≤ 1353244080301) :
    Calls Try.prog 25 #[.pointer p] w fun e w' => ∃ q, e = .returned (.pointer q) ∧ DAt w.heap.size w' q (cloneS S) (made w w') ∧ (q = none ↔ S = none) ∧ Fut w w' := by
  have := h.holds
  cases S with
  | none => subst this; exact (rclone_nil w).mono fun e w' ⟨h1, h2⟩ => ⟨none, h1, ⟨rfl, fun k hk => hk.2⟩, by simp, h2 ▸ Fut.refl _⟩
  | some s =>
    obtain ⟨b, v, rfl, h2, h3, h4, h5⟩ := this
    refine (rclone_any h2 (le_rows hl)).mono ?_
    rintro e w' ⟨b', v', rfl, hR, hf⟩
    exact ⟨_, rfl, ⟨⟨b', v', rfl, hR, h3, h4, fun k hk => ⟨hR.ge k hk, hR.lt k hk⟩⟩, fun k hk => hk.2⟩, by simp, hf⟩
end
end Go.Proofs.Ytcekphjcmippoaa
