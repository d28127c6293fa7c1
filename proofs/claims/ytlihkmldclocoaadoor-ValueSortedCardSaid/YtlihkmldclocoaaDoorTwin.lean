/- Copies with a mark behind: TwinValues, LeftValues. -/
import Derived.Test.YtlihkmldclocoaaDoorVals
namespace Go.Proofs.YtlihkmldclocoaaDoor
open Go.RowKit
set_option linter.unusedSimpArgs false
set_option linter.unusedVariables false

/-! ### Copies with a mark behind -/
def markV : V := ⟨99, 777777, ⟨#[]⟩⟩
set_option maxHeartbeats 400000 in
theorem mark_any (w : World) : Calls Tryd.prog 36 #[.int .i64 777777] w fun e w' => e = .returned markV.val ∧ Fut w w' := by
  go_enter Tryd.func36, Tryd.ntmps36
  go_wp2
  exact bodyPost_ret (v := markV.val) (by simp [results, Tryd.results36, go_sem, markV, V.val]) rfl ⟨rfl, Fut.alloc _ _⟩
set_option maxHeartbeats 400000 in
theorem isMark_any (w : World) : Calls Tryd.prog 42 #[markV.val, .int .i64 777777] w fun e w' => e = .returned (.bool true) ∧ Fut w w' := by
  unfold markV V.val
  go_enter Tryd.func42, Tryd.ntmps42
  go_wp2
  go_ret
  exact ⟨rfl, Fut.alloc _ _⟩

theorem infoV : (Tryd.prog.info? 27).map (fun i => (i.zero, i.size, i.bytes)) = some (some (.agg #[.int .i8 0, .int .i64 0, .string ⟨#[]⟩]), 3, 32) := by kernel_rfl
/-- A copy that TwinValues makes. -/
def TwinR (B : Nat) (w : World) (v : Value) (xs : List V) : Prop :=
  ∃ g, B ≤ g ∧ v = .slice (some ⟨g, 0, none⟩) xs.length (xs.length + 1) ∧ BlkF w g 27 ((xs.length + 1) * 3) (flat (xs ++ [markV]))
theorem TwinR.fut {B : Nat} {w w' : World} {v : Value} {xs : List V} (h : TwinR B w v xs) (hf : Fut w w') : TwinR B w' v xs := by
  obtain ⟨g, h1, h2, h3⟩ := h
  exact ⟨g, h1, h2, h3.fut hf⟩
theorem flat_left (xs ys : List V) (j : Nat) (h : j < xs.length * 3) : flat (xs ++ ys) j = flat xs j := by
  unfold flat
  rw [List.getElem?_append_left (by omega)]
theorem TwinR.vals {B : Nat} {w : World} {v : Value} {xs : List V} (h : TwinR B w v xs) (hok : ∀ x ∈ xs, x.ok) (hm : xs.length < 4398046511104) : Vals w v xs := by
  obtain ⟨g, h1, rfl, h3⟩ := h
  exact vals_of_blk h3 (by omega) (fun j hj => flat_left _ _ _ hj) (by omega) (by omega) hok
theorem Vals.oks {w : World} {v : Value} {xs : List V} (h : Vals w v xs) : ∀ x ∈ xs, x.ok := by
  obtain ⟨A, cap, _, _, _, h3⟩ := h
  intro x hx
  obtain ⟨i, hi⟩ := List.getElem?_of_mem hx
  obtain ⟨_, _, _, _, _, _, _, hok⟩ := h3 i x hi
  exact hok

def zeroV : V := ⟨0, 0, ⟨#[]⟩⟩
theorem flat_rep (xs : List V) (k n : Nat) (hk : k < xs.length) (j : Nat) (hj : j < n * 3) (hn : xs.length ≤ n) :
    (if j = k * 3 + 2 then Value.string (xs[k]).s else if j = k * 3 + 1 then .int .i64 (xs[k]).n else if j = k * 3 then .int .i8 (xs[k]).k else flat (xs.take k ++ List.replicate (n - k) zeroV) j) =
      flat (xs.take (k + 1) ++ List.replicate (n - (k + 1)) zeroV) j := by
  obtain ⟨f0, f1, f2⟩ := flat_at xs k hk
  by_cases hjk : j / 3 = k
  · have hl : flat (xs.take (k + 1) ++ List.replicate (n - (k + 1)) zeroV) j = flat xs j := by
      rw [flat_left _ _ _ (by rw [List.length_take]; omega)]
      unfold flat
      rw [List.getElem?_take, if_pos (by omega)]
    rw [hl]
    rcases (by omega : j = k * 3 + 2 ∨ j = k * 3 + 1 ∨ j = k * 3) with rfl | rfl | rfl
    · rw [if_pos rfl, f2]
    · rw [if_neg (by omega), if_pos rfl, f1]
    · rw [if_neg (by omega), if_neg (by omega), if_pos rfl, f0]
  · rw [if_neg (by omega), if_neg (by omega), if_neg (by omega)]
    rcases Nat.lt_or_ge (j / 3) k with h | h
    · rw [flat_left _ _ _ (by rw [List.length_take]; omega), flat_left _ _ _ (by rw [List.length_take]; omega)]
      unfold flat
      rw [List.getElem?_take, List.getElem?_take, if_pos (by omega), if_pos (by omega)]
    · unfold flat
      rw [List.getElem?_append_right (by rw [List.length_take]; omega), List.getElem?_append_right (by rw [List.length_take]; omega), List.length_take, List.length_take,
        List.getElem?_replicate, List.getElem?_replicate, if_pos (by omega), if_pos (by omega)]
theorem flat_mark (xs : List V) (j : Nat) (hj : j < (xs.length + 1) * 3) :
    (if j = xs.length * 3 + 2 then Value.string markV.s else if j = xs.length * 3 + 1 then .int .i64 markV.n else if j = xs.length * 3 then .int .i8 markV.k else flat (xs.take xs.length ++ List.replicate (xs.length + 1 - xs.length) zeroV) j) =
      flat (xs ++ [markV]) j := by
  rw [List.take_length, show xs.length + 1 - xs.length = 1 by omega]
  rcases Nat.lt_or_ge j (xs.length * 3) with h | h
  · rw [if_neg (by omega), if_neg (by omega), if_neg (by omega), flat_left _ _ _ h, flat_left _ _ _ h]
  · obtain ⟨f0, f1, f2⟩ := flat_at (xs ++ [markV]) xs.length (by simp)
    simp only [List.getElem_concat_length] at f0 f1 f2
    rcases (by omega : j = xs.length * 3 + 2 ∨ j = xs.length * 3 + 1 ∨ j = xs.length * 3) with rfl | rfl | rfl
    · rw [if_pos rfl, f2]
    · rw [if_neg (by omega), if_pos rfl, f1]
    · rw [if_neg (by omega), if_neg (by omega), if_pos rfl, f0]

theorem made_zero (n j : Nat) (hj : j < n * 3) : (madeCells #[Value.int .i8 0, .int .i64 0, .string ⟨#[]⟩] (n * 3)).getD j undef = flat (List.replicate n zeroV) j := by
  unfold flat
  rw [List.getElem?_replicate, if_pos (by omega)]
  simp only [madeCells, Option.map_some, Option.getD_some, V.cells, zeroV]
  simp [hj]
  rcases (by omega : j % 3 = 0 ∨ j % 3 = 1 ∨ j % 3 = 2) with h | h | h <;> rw [h] <;> rfl

set_option maxHeartbeats 800000 in
theorem twin_any (a : Value) (xs : List V) (w : World) (ha : Vals w a xs) (hn : xs.length < 4398046511104) :
    Calls Tryd.prog 9 #[a] w fun e w' => ∃ v, e = .returned v ∧ TwinR w.heap.size w' v xs ∧ Fut w w' := by
  obtain ⟨A, cap, rfl, hl, hm⟩ := SlRep.form ha
  obtain ⟨i0, hi0, hz0, hz1, hz2⟩ := info_parts infoV
  have hmk : ∀ W : World, (Instr.makeSlice 24 (.int .i64 ((xs.length : Int) + 1)) (.int .i64 ((xs.length : Int) + 1))).run Tryd.prog W =
      .ok (.slice (some ⟨W.heap.size, 0, none⟩) (xs.length + 1) (xs.length + 1)) (W.alloc (.cells (madeCells #[Value.int .i8 0, .int .i64 0, .string ⟨#[]⟩] ((xs.length + 1) * 3)) 27)) := fun W => by
    have := run_make_rowN (P := Tryd.prog) 24 27 i0 _ Tryd.underlying24 hi0 hz0 .i64 .i64 (xs.length + 1) (xs.length + 1) (Nat.le_refl _) (by rw [hz2]; omega) (by omega) W
    rw [hz1] at this
    exact this
  go_enter Tryd.func9, Tryd.ntmps9
  go_wp2
  go_loopw [4] (fun i wr => ∃ k : Nat, k ≤ xs.length ∧ i = .int .i64 k ∧ BlkF wr w.heap.size 27 ((xs.length + 1) * 3) (flat (xs.take k ++ List.replicate (xs.length + 1 - k) zeroV)) ∧ Hid (Fut w wr)) (fun i _ => xs.length - (intOf i).toNat)
  case atStart => exact ⟨0, Nat.zero_le _, rfl, by
    have h := BlkF.new w 27 (madeCells #[Value.int .i8 0, .int .i64 0, .string ⟨#[]⟩] ((xs.length + 1) * 3))
    rw [show (madeCells #[Value.int .i8 0, .int .i64 0, .string ⟨#[]⟩] ((xs.length + 1) * 3)).size = (xs.length + 1) * 3 by simp [madeCells]] at h
    exact h.congr fun j hj => made_zero _ j hj, Fut.alloc _ _⟩
  case round =>
    obtain ⟨k, hk, rfl, hblk, hf⟩ := hrel
    have hsz : w.heap.size < wr.heap.size := hblk.lt
    by_cases hlt : k < xs.length
    · obtain ⟨b, off, rfl, _, x0, x1, x2⟩ := Vals.at_ (ha.fut RV.stays hf.out) hlt
      have hbne : b ≠ w.heap.size := by
        have := lt_of_cell (Vals.at_ ha hlt).choose_spec.choose_spec.2.2.1
        obtain ⟨b1, off1, hA, _, z0, _⟩ := Vals.at_ ha hlt
        injection hA with hA
        injection hA with hA
        subst hA
        have := lt_of_cell z0
        simp only at this
        omega
      have d0 := hblk.cell (j := k * 3) (by omega)
      have d1 := hblk.cell (j := k * 3 + 1) (by omega)
      have d2 := hblk.cell (j := k * 3 + 2) (by omega)
      have e0 := hblk.free (k * 3)
      have e1 := hblk.free (k * 3 + 1)
      have e2 := hblk.free (k * 3 + 2)
      have HB := Lib.hid hblk
      clear hblk
      go_wp2
      refine ⟨⟨k + 1, by omega, by go_num, ?_, ((hf.out.set (Nat.le_refl _) _).set (Nat.le_refl _) _).set (Nat.le_refl _) _⟩, by simp [intOf]; omega⟩
      exact (((HB.out.set _ _).set _ _).set _ _).congr fun j hj => flat_rep xs k (xs.length + 1) hlt j hj (by omega)
    · obtain rfl : k = xs.length := by omega
      have HB := Lib.hid hblk
      clear hblk
      go_wp2_with fail
      refine (mark_any _).mono ?_
      rintro e w1 ⟨rfl, h1⟩
      have hb1 := HB.out.fut h1
      have d0 := hb1.cell (j := xs.length * 3) (by omega)
      have d1 := hb1.cell (j := xs.length * 3 + 1) (by omega)
      have d2 := hb1.cell (j := xs.length * 3 + 2) (by omega)
      have e0 := hb1.free (xs.length * 3)
      have e1 := hb1.free (xs.length * 3 + 1)
      have e2 := hb1.free (xs.length * 3 + 2)
      have HB1 := Lib.hid hb1
      clear hb1
      simp only [markV, V.val]
      go_wp2
      go_ret
      refine ⟨_, rfl, ⟨_, Nat.le_refl _, rfl, ?_⟩, (((hf.out.trans h1).set (Nat.le_refl _) _).set (Nat.le_refl _) _).set (Nat.le_refl _) _⟩
      exact (((HB1.out.set _ _).set _ _).set _ _).congr fun j hj => flat_mark xs j hj

set_option maxHeartbeats 800000 in
theorem left_any (B : Nat) (a b : Value) (xs : List V) (w : World) (ha : TwinR B w a xs) (hb : Vals w b xs) (hn : xs.length < 4398046511104) :
    Calls Tryd.prog 11 #[a, b] w fun e w' => e = .returned (.bool true) ∧ Fut w w' := by
  have hv := ha.vals hb.oks hn
  obtain ⟨A, cap, rfl, hl, hm⟩ := SlRep.form hb
  obtain ⟨g, _, rfl, hblk⟩ := ha
  have HB := Lib.hid hblk
  clear hblk
  go_enter Tryd.func11, Tryd.ntmps11
  go_wp2_with fail
  refine (same_any _ _ xs xs _ hv hb).mono ?_
  rintro e w1 ⟨rfl, h1⟩
  obtain ⟨f0, f1, f2⟩ := flat_at (xs ++ [markV]) xs.length (by simp)
  simp only [List.getElem_concat_length] at f0 f1 f2
  have d0 := (HB.out.fut h1).cell (j := xs.length * 3) (by omega)
  have d1 := (HB.out.fut h1).cell (j := xs.length * 3 + 1) (by omega)
  have d2 := (HB.out.fut h1).cell (j := xs.length * 3 + 2) (by omega)
  rw [f0] at d0
  rw [f1] at d1
  rw [f2] at d2
  clear f0 f1 f2
  simp only [decide_true]
  go_wp2_with fail
  refine (isMark_any _).mono ?_
  rintro e w2 ⟨rfl, h2⟩
  go_wp2
  go_ret
  exact ⟨rfl, h1.trans h2⟩

end Go.Proofs.YtlihkmldclocoaaDoor
