/- The document's Read. -/
import Derived.Test.YtlihkmldclocoaaDoorSaidW
import Derived.Test.YtlihkmldclocoaaDoorRead1
import Derived.Test.YtlihkmldclocoaaDoorCols0
namespace Go.Proofs.YtlihkmldclocoaaDoor
open Go.RowKit
set_option linter.unusedSimpArgs false
set_option linter.unusedVariables false

theorem txt_okM (s : ByteArray) (hs : s.size ≤ 140737488351232) : (txtV s).ok :=
  ⟨show (Lit.int .i8 2).wf = true by decide, show (Lit.int .i64 0).wf = true by decide, hs⟩
theorem numF_in : ∀ (l : List UInt8) (n : Int), (-9223372036854775808 ≤ n ∧ n ≤ 9223372036854775807) → -9223372036854775808 ≤ numF l n ∧ numF l n ≤ 9223372036854775807
  | [], n, h => h
  | c :: r, n, h => by
    unfold numF
    split
    · exact numF_in r n h
    · exact numF_in r _ (by unfold wrap64; omega)
theorem numL_in (l : List UInt8) : -9223372036854775808 ≤ numL l ∧ numL l ≤ 9223372036854775807 := by
  unfold numL
  split
  · unfold wrap64; omega
  · exact numF_in l 0 (by omega)
theorem unqS_len : ∀ l : List UInt8, (unqS l).length ≤ l.length := fun l => by
  generalize hn : l.length = n
  induction n using Nat.strongRecOn generalizing l with
  | _ n ih =>
    match l, hn with
    | [], _ => rw [unqS]; simp
    | [_], _ => rw [unqS]; simp
    | c :: d :: r, hn =>
      by_cases h : c.toNat = 92
      · have hc : c = 92 := UInt8.toNat_inj.1 h
        subst hc
        by_cases h2 : d.toNat = 120
        · match r, hn with
          | [], hn => rw [unqS_short _ _ (by simp)]; rw [unqS]; simp at hn ⊢; omega
          | [_], hn => rw [unqS_short _ _ (by simp)]; rw [unqS]; simp at hn ⊢; omega
          | a :: b :: r', hn =>
            have hd : d = 120 := UInt8.toNat_inj.1 h2
            subst hd
            rw [unqS_hex]
            simp at hn
            have := ih r'.length (by omega) r' rfl
            simp; omega
        · rw [unqS_two _ _ h2]
          simp at hn
          have := ih r.length (by omega) r rfl
          simp; omega
      · rw [unqS_plain _ _ _ h]
        simp at hn
        have := ih (d :: r).length (by simp; omega) (d :: r) rfl
        simp at this ⊢; omega
theorem unqL_size (s : ByteArray) : (unqL s).size ≤ s.size := by
  rw [Lib.size_eq, Lib.size_eq, unqL]
  have := unqS_len (s.data.toList.drop 1)
  rw [List.length_drop] at this
  show (unqS (s.data.toList.drop 1)).length ≤ _
  omega
theorem vals_three (w : World) (x y z : V) (hx : x.ok) (hy : y.ok) (hz : z.ok) (e : TypeId) : Vals (w.alloc (.cells #[.int .i8 x.k, .int .i64 x.n, .string x.s, .int .i8 y.k, .int .i64 y.n, .string y.s, .int .i8 z.k, .int .i64 z.n, .string z.s] e)) (.slice (some ⟨w.heap.size, 0, none⟩) 3 3) [x, y, z] := by
  refine vals_of_blk (N := 9) (xs := [x, y, z]) (BlkF.new w e #[.int .i8 x.k, .int .i64 x.n, .string x.s, .int .i8 y.k, .int .i64 y.n, .string y.s, .int .i8 z.k, .int .i64 z.n, .string z.s]) (by simp) (fun j hj => ?_) (by simp) (by simp) (by simp [hx, hy, hz])
  simp at hj
  rcases (by omega : j = 0 ∨ j = 1 ∨ j = 2 ∨ j = 3 ∨ j = 4 ∨ j = 5 ∨ j = 6 ∨ j = 7 ∨ j = 8) with rfl | rfl | rfl | rfl | rfl | rfl | rfl | rfl | rfl <;> rfl

/-- The first of these that is shown so. -/
def firstS (s : ByteArray) : List V → V × Int
  | [] => (noV, 10)
  | x :: r => if showV x = (s, 0) then (x, 0) else firstS s r
theorem readR_first (s : ByteArray) : readR s = firstS s [numV (numL s.data.toList), txtV s, txtV (unqL s)] := rfl
def tupR (r : V × Int) : Value := .tuple #[r.1.val, .int .i64 r.2]

set_option maxHeartbeats 2000000 in
set_option maxRecDepth 100000 in
theorem rread_any (s : ByteArray) (w : World) (hs : s.size ≤ 140737488351232) (hP : Pows w) :
    Calls Tryd.prog 12 #[.string s] w fun e w' => e = .returned (tupR (readR s)) ∧ Fut w w' := by
  have HP := Lib.hid hP
  have HN := Lib.hid (rnumber_any s)
  have HU := Lib.hid (runq_any s)
  have ho1 := numV_ok (numL s.data.toList) (in_wf (numL_in _))
  have ho2 := txt_okM s hs
  have ho3 := txt_okM (unqL s) (by have := unqL_size s; omega)
  rw [readR_first]
  generalize numL s.data.toList = n at HN ho1 ⊢
  generalize unqL s = u at HU ho3 ⊢
  obtain ⟨l, hl⟩ : ∃ l, [numV n, txtV s, txtV u] = l := ⟨_, rfl⟩
  have HV := Lib.hid (fun w e => vals_three w (numV n) (txtV s) (txtV u) ho1 ho2 ho3 e)
  rw [hl] at HV ⊢
  have hl3 : l.length = 3 := by rw [← hl]; rfl
  have HOK := Lib.hid (show ∀ x ∈ l, x.ok by rw [← hl]; simp [ho1, ho2, ho3])
  clear hP ho1 ho2 ho3 hl
  obtain ⟨R, hR⟩ : ∃ R, firstS s l = R := ⟨_, rfl⟩
  rw [hR]
  have HR := Lib.hid hR
  clear hR
  go_enter Tryd.func12, Tryd.ntmps12
  go_wp2_with fail
  refine (HN.out _ hs).mono ?_
  rintro e w1 ⟨rfl, rfl⟩
  go_wp2_with fail
  refine (HU.out _ hs).mono ?_
  rintro e w2 ⟨rfl, h2⟩
  go_wp2
  simp only [numV, txtV] at HV
  have hV := HV.out w2 27
  have c0 : w2.cell? ⟨w.heap.size, 0, none⟩ = some (.int .i8 0) := h2.cell (by go_simp)
  have c1 : w2.cell? ⟨w.heap.size, 1, none⟩ = some (.int .i64 0) := h2.cell (by go_simp)
  have c2 : w2.cell? ⟨w.heap.size, 2, none⟩ = some (.string ⟨#[]⟩) := h2.cell (by go_simp)
  have z0 : w2.frozen? ⟨w.heap.size, 0, none⟩ = false := h2.free (by simp) (by go_simp)
  have z1 : w2.frozen? ⟨w.heap.size, 1, none⟩ = false := h2.free (by simp) (by go_simp)
  have z2 : w2.frozen? ⟨w.heap.size, 2, none⟩ = false := h2.free (by simp) (by go_simp)
  have hsz2 : w.heap.size < w2.heap.size := by have := h2.size; simp at this; omega
  have hF2 := Lib.hid ((Fut.alloc _ _).trans h2)
  obtain ⟨o9, ho9⟩ : ∃ o, Obj.cells #[Value.int .i8 1, .int .i64 n, .string ⟨#[]⟩, .int .i8 2, .int .i64 0, .string s, .int .i8 2, .int .i64 0, .string u] 27 = o := ⟨_, rfl⟩
  rw [ho9] at hV ⊢
  clear ho9 HV HN HU
  go_loopw [5] (fun i wr => ∃ k : Nat, k ≤ 3 ∧ i = .int .i64 k ∧ Hid (firstS s (l.drop k) = R) ∧ Hid (Fut (w2.alloc o9) wr)) (fun i _ => 3 - (intOf i).toNat)
  case atStart => exact ⟨0, by omega, rfl, HR, Lib.hid (Fut.refl _)⟩
  case round =>
    obtain ⟨k, hk, rfl, hR, hF⟩ := hrel
    have hFw : Fut w2 wr := (Fut.alloc _ _).trans hF.out
    by_cases hlt : k < 3
    · obtain ⟨b, off, he, hok, x0, x1, x2⟩ := Vals.at_ (hV.fut RV.stays hF.out) (show k < l.length by omega)
      injection he with he
      injection he with he1 he2
      subst he1; subst he2
      have hstep := Lib.hid (show firstS s (l.drop k) = if showV (l[k]'(by omega)) = (s, 0) then (l[k]'(by omega), 0) else firstS s (l.drop (k + 1)) by rw [List.drop_eq_getElem_cons (show k < l.length by omega)]; rfl)
      rw [hR.out] at hstep
      have HS := Lib.hid (fun w hP => rshow_any (l[k]'(by omega)) w hok hP)
      have hkl : k < l.length := by omega
      have hv0 : (l[k]'(by omega)).val = .agg #[.int .i8 (l[k]'(by omega)).k, .int .i64 (l[k]'(by omega)).n, .string (l[k]'(by omega)).s] := rfl
      obtain ⟨x, hx⟩ : ∃ x, l[k]'(by omega) = x := ⟨_, rfl⟩
      rw [hx] at hstep HS x0 x1 x2
      obtain ⟨kk, nn, ss⟩ := x
      obtain ⟨p, hp⟩ : ∃ p, showV ⟨kk, nn, ss⟩ = p := ⟨_, rfl⟩
      rw [hp] at hstep HS
      obtain ⟨a, b⟩ := p
      simp only [tupS, V.val, Nat.zero_add] at HS x0 x1 x2
      clear hx hp hok hv0
      by_cases hc : (a, b) = (s, 0)
      · have hr := Lib.hid (show R = (⟨kk, nn, ss⟩, 0) by rw [hstep.out, if_pos hc])
        injection hc with ha hb
        subst ha; subst hb
        clear hstep
        go_wp2_with fail
        refine (HS.out _ (HP.out.fut (hF2.out.trans hFw))).mono ?_
        rintro e w4 ⟨rfl, h4⟩
        have y0 := h4.cell x0
        have y1 := h4.cell x1
        have y2 := h4.cell x2
        have hF4 := hFw.trans h4
        have c0' := hF4.cell c0
        have c1' := hF4.cell c1
        have c2' := hF4.cell c2
        have z0' := hF4.free hsz2 z0
        have z1' := hF4.free hsz2 z1
        have z2' := hF4.free hsz2 z2
        go_wp2
        exact bodyPost_ret (v := tupR (⟨kk, nn, ss⟩, 0)) (by simp [results, Tryd.results12, go_sem, tupR, V.val, c0', c1', c2', z0', z1', z2']) rfl ⟨by rw [hr.out], (((hF2.out.trans hF4).set (Nat.le_refl _) _).set (Nat.le_refl _) _).set (Nat.le_refl _) _⟩
      · have hr := Lib.hid (show firstS s (l.drop (k + 1)) = R by rw [hstep.out, if_neg hc])
        clear hstep
        by_cases hb : b = 0
        · have ha : (a.toList == s.toList) = false := by
            rw [beq_eq_false_iff_ne]
            intro e
            rw [ByteArray.toList_eq, ByteArray.toList_eq] at e
            exact hc (by rw [WideShapes.bytes_inj e, hb])
          subst hb
          clear hc
          go_wp2_with fail
          refine (HS.out _ (HP.out.fut (hF2.out.trans hFw))).mono ?_
          rintro e w4 ⟨rfl, h4⟩
          go_wp2
          exact ⟨⟨k + 1, by omega, by go_num, hr, Lib.hid (hF.out.trans h4)⟩, by simp [intOf]; omega⟩
        · have hb1 : (b == 0) = false := by simpa using hb
          clear hc hb
          go_wp2_with fail
          refine (HS.out _ (HP.out.fut (hF2.out.trans hFw))).mono ?_
          rintro e w4 ⟨rfl, h4⟩
          go_wp2
          exact ⟨⟨k + 1, by omega, by go_num, hr, Lib.hid (hF.out.trans h4)⟩, by simp [intOf]; omega⟩
    · obtain rfl : k = 3 := by omega
      have hr := Lib.hid (show R = (noV, 10) by rw [← hR.out, List.drop_of_length_le (by omega)]; rfl)
      have c0' := hFw.cell c0
      have c1' := hFw.cell c1
      have c2' := hFw.cell c2
      have z0' := hFw.free hsz2 z0
      have z1' := hFw.free hsz2 z1
      have z2' := hFw.free hsz2 z2
      go_wp2
      exact bodyPost_ret (v := tupR (noV, 10)) (by simp [results, Tryd.results12, go_sem, tupR, noV, V.val, c0', c1', c2', z0', z1', z2']) rfl ⟨by rw [hr.out], (((hF2.out.trans hFw).set (Nat.le_refl _) _).set (Nat.le_refl _) _).set (Nat.le_refl _) _⟩
end Go.Proofs.YtlihkmldclocoaaDoor
