/- value.Arith: characters, and a text turned round; one; Points. -/
import Derived.Test.YtlihkmldclocoaaDoorBack
import Derived.Test.YtlihkmldclocoaaDoorRing
import Derived.Test.YtlihkmldclocoaaDoorCols0
namespace Go.Proofs.YtlihkmldclocoaaDoor
open Go.RowKit
set_option linter.unusedSimpArgs false
set_option linter.unusedVariables false

def bk (s : ByteArray) : ByteArray := ⟨(backL s.data.toList).toArray⟩
theorem bk_size (s : ByteArray) : (bk s).size = s.size := by
  rw [Lib.size_eq, Lib.size_eq, bk]
  simp [backL_len]
def nch (s : ByteArray) : Nat := (chars s.data.toList).length
theorem nch_le (s : ByteArray) : nch s ≤ s.size ∧ s.size ≤ 4 * nch s := by
  rw [Lib.size_eq]; exact chars_len _

set_option maxHeartbeats 800000 in
theorem arith10_any (a : Value) (s : ByteArray) (w : World) (hT : Takes w) (ha : Vals w a [txtV s]) (hs : s.size ≤ 200) (hx : good 2 (txtV s) = true) :
    Calls Tryd.prog 10 #[.int .i8 10, a] w fun e w' => e = .returned (pairV (txtV (bk s)) true) ∧ Fut w w' := by
  obtain ⟨A, cap, rfl, hl, hm⟩ := SlRep.form ha
  obtain ⟨b, off, rfl, hok, _, x1, x2⟩ := Vals.at_ ha (k := 0) (by simp)
  have t0 : ∀ o, (w.alloc o).cell? ⟨0, 10, none⟩ = some (.int .i8 3) := fun o => (Fut.alloc w o).cell (hT 10 (by omega))
  simp only [List.getElem_cons_zero, Nat.zero_mul, Nat.add_zero, List.length_cons, List.length_nil, Nat.zero_add, txtV] at x1 x2
  have HA := Lib.hid ha
  clear ha
  simp only [List.length_cons, List.length_nil, Nat.zero_add] at HA ⊢
  go_enter Tryd.func10, Tryd.ntmps10
  go_wp2_with fail
  refine (fits3_any _ [txtV s] _ (HA.out.fut RV.stays (Fut.alloc _ _))).mono ?_
  rintro e w1 ⟨rfl, h1⟩
  rw [show fitsV 1 2 [txtV s] = true by simp [fitsV, hx]]
  have hF : Fut w w1 := (Fut.alloc _ _).trans h1
  have x1' := hF.cell x2
  have hsz : w.heap.size < w1.heap.size := by have := h1.size; simp at this; omega
  have c1_0_0 : w1.cell? ⟨w.heap.size, 0, none⟩ = some (.int .i8 0) := h1.cell (by go_simp)
  have c1_0_1 : w1.cell? ⟨w.heap.size, 1, none⟩ = some (.int .i64 0) := h1.cell (by go_simp)
  have c1_0_2 : w1.cell? ⟨w.heap.size, 2, none⟩ = some (.string ⟨#[]⟩) := h1.cell (by go_simp)
  have z1_0 : w1.frozen? ⟨w.heap.size, 0, none⟩ = false := h1.free (by simp) (by go_simp)
  have z1_1 : w1.frozen? ⟨w.heap.size, 1, none⟩ = false := h1.free (by simp) (by go_simp)
  have z1_2 : w1.frozen? ⟨w.heap.size, 2, none⟩ = false := h1.free (by simp) (by go_simp)
  go_wp2_with fail
  refine (show Calls Tryd.prog 41 #[.string s] w1 fun e w' => e = .returned (.string (bk s)) ∧ Fut w1 w' from back_any s _ (by omega)).mono ?_
  rintro e w2 ⟨rfl, h2⟩
  have hb2 := bk_size s
  go_wp2_with fail
  refine (show Calls Tryd.prog 40 #[.string (bk s)] w2 fun e w' => e = .returned (pairV (txtV (bk s)) true) ∧ Fut w2 w' from by
    have := text_any (bk s) w2 (by omega)
    rw [if_pos (by omega)] at this
    exact this).mono ?_
  rintro e w3 ⟨rfl, h3⟩
  have h13 := h2.trans h3
  have c2_0_0 := h13.cell c1_0_0
  have c2_0_1 := h13.cell c1_0_1
  have c2_0_2 := h13.cell c1_0_2
  have z2_0 : w3.frozen? ⟨w.heap.size, 0, none⟩ = false := h13.free hsz z1_0
  have z2_1 : w3.frozen? ⟨w.heap.size, 1, none⟩ = false := h13.free hsz z1_1
  have z2_2 : w3.frozen? ⟨w.heap.size, 2, none⟩ = false := h13.free hsz z1_2
  simp only [pairV, txtV, V.val]
  go_wp2
  exact bodyPost_ret (v := pairV (txtV (bk s)) true) (by simp [results, Tryd.results10, go_sem, pairV, txtV, V.val, z2_0, z2_1, z2_2, c2_0_0, c2_0_1, c2_0_2]) rfl ⟨rfl, (((hF.trans h13).set (Nat.le_refl _) _).set (Nat.le_refl _) _).set (Nat.le_refl _) _⟩

set_option maxHeartbeats 800000 in
theorem arith9_any (a : Value) (s : ByteArray) (w : World) (hT : Takes w) (ha : Vals w a [txtV s]) (hs : s.size ≤ 200) (hx : good 2 (txtV s) = true) :
    Calls Tryd.prog 10 #[.int .i8 9, a] w fun e w' => e = .returned (pairV (numV (nch s)) true) ∧ Fut w w' := by
  obtain ⟨A, cap, rfl, hl, hm⟩ := SlRep.form ha
  obtain ⟨b, off, rfl, hok, _, x1, x2⟩ := Vals.at_ ha (k := 0) (by simp)
  have t0 : ∀ o, (w.alloc o).cell? ⟨0, 9, none⟩ = some (.int .i8 3) := fun o => (Fut.alloc w o).cell (hT 9 (by omega))
  simp only [List.getElem_cons_zero, Nat.zero_mul, Nat.add_zero, List.length_cons, List.length_nil, Nat.zero_add, txtV] at x1 x2
  have HA := Lib.hid ha
  clear ha
  simp only [List.length_cons, List.length_nil, Nat.zero_add] at HA ⊢
  go_enter Tryd.func10, Tryd.ntmps10
  go_wp2_with fail
  refine (fits3_any _ [txtV s] _ (HA.out.fut RV.stays (Fut.alloc _ _))).mono ?_
  rintro e w1 ⟨rfl, h1⟩
  rw [show fitsV 1 2 [txtV s] = true by simp [fitsV, hx]]
  have hF : Fut w w1 := (Fut.alloc _ _).trans h1
  have x1' := hF.cell x2
  have hsz : w.heap.size < w1.heap.size := by have := h1.size; simp at this; omega
  have c1_0_0 : w1.cell? ⟨w.heap.size, 0, none⟩ = some (.int .i8 0) := h1.cell (by go_simp)
  have c1_0_1 : w1.cell? ⟨w.heap.size, 1, none⟩ = some (.int .i64 0) := h1.cell (by go_simp)
  have c1_0_2 : w1.cell? ⟨w.heap.size, 2, none⟩ = some (.string ⟨#[]⟩) := h1.cell (by go_simp)
  have z1_0 : w1.frozen? ⟨w.heap.size, 0, none⟩ = false := h1.free (by simp) (by go_simp)
  have z1_1 : w1.frozen? ⟨w.heap.size, 1, none⟩ = false := h1.free (by simp) (by go_simp)
  have z1_2 : w1.frozen? ⟨w.heap.size, 2, none⟩ = false := h1.free (by simp) (by go_simp)
  go_wp2_with fail
  have hl : s.data.toList.length = s.size := (Lib.size_eq s).symm
  have hcn := (nch_le s).1
  have HF := Lib.hid (And.intro hF (And.intro x1' (And.intro c1_0_0 (And.intro c1_0_1 (And.intro c1_0_2 (And.intro z1_0 (And.intro z1_1 z1_2)))))))
  clear c1_0_0 c1_0_1 c1_0_2 z1_0 z1_1 z1_2
  go_loopw [8] (fun n wr => ∃ pos k : Nat, wr = w1.iter s pos ∧ n = .int .i64 k ∧ pos ≤ s.size ∧ k ≤ s.size ∧ Hid (k + (chars (s.data.toList.drop pos)).length = nch s)) (fun _ wr => s.size - wr.iterPos w1.heap.size)
  case atStart => exact ⟨0, 0, rfl, rfl, Nat.zero_le _, Nat.zero_le _, Lib.hid (by simp [nch])⟩
  case round =>
    obtain ⟨pos, k, rfl, rfl, hps, hk, hc⟩ := hrel
    by_cases hp : pos < s.size
    · have hnx : ∀ ty, (Instr.next (.pointer (some ⟨w1.heap.size, 0, none⟩)) true ty).run Tryd.prog (w1.iter s pos) = _ := fun ty => run_next_any w1 s pos ty hp
      have hne : s.data.toList.drop pos ≠ [] := fun e => by have := congrArg List.length e; simp at this; rw [Lib.size_eq] at hp; simp at hp; omega
      have hd := Lib.hid (decode_wd s pos hp)
      have hcc := Lib.hid (chars_cons _ hne)
      have hlw := Lib.hid (wd_le _ hne)
      have hpw := Lib.hid (wd_pos (s.data.toList.drop pos))
      have hk1 : k + 1 ≤ s.size := by have := hc.out; rw [hcc.out] at this; simp at this; omega
      clear hne
      go_wp2
      have e1 := hd.out; have e2 := hcc.out; have e3 := hlw.out; have e4 := hpw.out; have e5 := hc.out
      rw [List.length_drop, hl] at e3
      rw [e2, List.length_cons, List.drop_drop] at e5
      refine ⟨⟨pos + (Utf8.decode s pos).2, k + 1, rfl, by go_num, by rw [e1]; omega, hk1, Lib.hid (by rw [e1]; omega)⟩, ?_⟩
      simp; omega
    · have hnx : ∀ ty, (Instr.next (.pointer (some ⟨w1.heap.size, 0, none⟩)) true ty).run Tryd.prog (w1.iter s pos) = _ := fun ty => run_next_end w1 s pos ty hp
      obtain rfl : pos = s.size := by omega
      have e5 := hc.out
      rw [List.drop_of_length_le (by omega), chars_nil, List.length_nil, Nat.add_zero] at e5
      subst e5
      have hit : Fut w1 (w1.iter s s.size) := Fut.alloc _ _
      go_wp2_with fail
      refine (number_any _ _).mono ?_
      rintro e w2 ⟨rfl, h2⟩
      have h13 := hit.trans h2
      have c2_0_0 := h13.cell HF.out.2.2.1
      have c2_0_1 := h13.cell HF.out.2.2.2.1
      have c2_0_2 := h13.cell HF.out.2.2.2.2.1
      have z2_0 : w2.frozen? ⟨w.heap.size, 0, none⟩ = false := h13.free hsz HF.out.2.2.2.2.2.1
      have z2_1 : w2.frozen? ⟨w.heap.size, 1, none⟩ = false := h13.free hsz HF.out.2.2.2.2.2.2.1
      have z2_2 : w2.frozen? ⟨w.heap.size, 2, none⟩ = false := h13.free hsz HF.out.2.2.2.2.2.2.2
      simp only [pairV, numV, V.val]
      go_wp2
      exact bodyPost_ret (v := pairV (numV (nch s)) true) (by simp [results, Tryd.results10, go_sem, pairV, numV, V.val, z2_0, z2_1, z2_2, c2_0_0, c2_0_1, c2_0_2]) rfl ⟨rfl, (((hF.trans h13).set (Nat.le_refl _) _).set (Nat.le_refl _) _).set (Nat.le_refl _) _⟩

theorem txt_ok (s : ByteArray) (hs : s.size ≤ 200) : (txtV s).ok := by
  refine ⟨show (Lit.int .i8 2).wf = true by decide, show (Lit.int .i64 0).wf = true by decide, ?_⟩
  simp only [txtV]; omega
theorem arith8_t (a : Value) (s : ByteArray) (w : World) (hT : Takes w) (ha : Vals w a [txtV s]) (hs : s.size ≤ 200) :
    Calls Tryd.prog 10 #[.int .i8 8, a] w fun e w' => e = .returned (pairV (numV s.size) true) ∧ Fut w w' := arith8_any a (txtV s) w hT ha (good_txt s hs)
theorem arith9_t (a : Value) (s : ByteArray) (w : World) (hT : Takes w) (ha : Vals w a [txtV s]) (hs : s.size ≤ 200) :
    Calls Tryd.prog 10 #[.int .i8 9, a] w fun e w' => e = .returned (pairV (numV (nch s)) true) ∧ Fut w w' := arith9_any a s w hT ha hs (good_txt s hs)


theorem points_drop (l : List UInt8) (h : l ≠ []) : points l = (okc (l.take (wd l)) && points (l.drop (wd l))) := by
  unfold points
  rw [chars_cons l h, List.all_cons]
theorem arith10_to (a : Value) (s r : ByteArray) (w : World) (hT : Takes w) (ha : Vals w a [txtV s]) (hs : s.size ≤ 200) (hr : bk s = r) :
    Calls Tryd.prog 10 #[.int .i8 10, a] w fun e w' => e = .returned (pairV (txtV r) true) ∧ Fut w w' := hr ▸ arith10_any a s w hT ha hs (good_txt s hs)
theorem bk_list (s : ByteArray) : (bk s).data.toList = backL s.data.toList := by simp [bk]
theorem bk_bk (s : ByteArray) (h : points s.data.toList = true) : bk (bk s) = s := by
  have := back_back h
  unfold bk
  simp only [this]
theorem bk_nch (s : ByteArray) (h : points s.data.toList = true) : nch (bk s) = nch s := by
  unfold nch
  rw [bk_list, chars_back h, List.length_reverse]
theorem heads_step (s : ByteArray) (k : Nat) (h : k < s.size) : heads (s.data.toList.take (k + 1)) = if ct s[k] = true then heads (s.data.toList.take k) else heads (s.data.toList.take k) + 1 := by
  have h' : k < s.data.size := h
  have e : s.data.toList[k]? = some s[k] := by rw [Array.getElem?_toList, Array.getElem?_eq_getElem h']; rfl
  rw [List.take_add_one, e]
  unfold heads
  rw [List.filter_append, List.length_append]
  cases hc : ct s[k] <;> simp [hc]
end Go.Proofs.YtlihkmldclocoaaDoor
