/- value.Read. -/
import Derived.Test.YtlihkmldclocoaaDoorRead2
namespace Go.Proofs.YtlihkmldclocoaaDoor
open Go.RowKit
set_option linter.unusedSimpArgs false
set_option linter.unusedVariables false

theorem saidS_len : ∀ (l t : List UInt8), saidS l = some t → t.length ≤ l.length := fun l => by
  generalize hn : l.length = n
  induction n using Nat.strongRecOn generalizing l with
  | _ n ih =>
    intro t ht
    match l, hn with
    | [], hn => rw [saidS] at ht; injection ht with ht; subst ht; simp
    | c :: r, hn =>
      simp only [List.length_cons] at hn
      by_cases h : c.toNat = 92
      · have hc : c = 92 := UInt8.toNat_inj.1 h
        subst hc
        match r, hn with
        | [], hn => rw [saidS_stop] at ht; cases ht
        | d :: r2, hn =>
          simp only [List.length_cons] at hn
          by_cases h1 : d.toNat = 110
          · have hd : d = 110 := UInt8.toNat_inj.1 h1
            subst hd
            rw [saidS_n] at ht
            cases hs : saidS r2 with
            | none => rw [hs] at ht; cases ht
            | some u =>
              rw [hs] at ht
              injection ht with ht
              subst ht
              have := ih r2.length (by omega) r2 rfl u hs
              simp only [List.length_cons]; omega
          · by_cases h2 : d.toNat = 120
            · have hd : d = 120 := UInt8.toNat_inj.1 h2
              subst hd
              match r2, hn with
              | [], _ => rw [saidS_short _ (by simp)] at ht; cases ht
              | [_], _ => rw [saidS_short _ (by simp)] at ht; cases ht
              | a :: b :: r3, hn =>
                simp only [List.length_cons] at hn
                cases hx : hexv a with
                | none => rw [saidS_bad _ _ _ (.inl hx)] at ht; cases ht
                | some x =>
                  cases hy : hexv b with
                  | none => rw [saidS_bad _ _ _ (.inr hy)] at ht; cases ht
                  | some y =>
                    rw [saidS_hex _ _ _ _ _ hx hy] at ht
                    cases hs : saidS r3 with
                    | none => rw [hs] at ht; cases ht
                    | some u =>
                      rw [hs] at ht
                      injection ht with ht
                      subst ht
                      have := ih r3.length (by omega) r3 rfl u hs
                      simp only [List.length_cons]; omega
            · rw [saidS_two _ _ h1 h2] at ht
              cases hs : saidS r2 with
              | none => rw [hs] at ht; cases ht
              | some u =>
                rw [hs] at ht
                injection ht with ht
                subst ht
                have := ih r2.length (by omega) r2 rfl u hs
                simp only [List.length_cons]; omega
      · rw [saidS_plain _ _ h] at ht
        cases hs : saidS r with
        | none => rw [hs] at ht; cases ht
        | some u =>
          rw [hs] at ht
          injection ht with ht
          subst ht
          have := ih r.length (by omega) r rfl u hs
          simp only [List.length_cons]; omega

/-! ### The walk -/
theorem cut_list2 (s : ByteArray) (a b : Nat) : (s.extract a b).data.toList = (s.data.toList.drop a).take (b - a) := by
  simp [ByteArray.data_extract]
theorem getDk (s : ByteArray) (k : Nat) (h : k < s.size) : s.data.toList.getD k 0 = s[k] := by
  have h' : k < s.data.size := h
  simp only [List.getD, Array.getElem?_toList, Array.getElem?_eq_getElem h']
  rfl
set_option maxHeartbeats 1000000 in
set_option maxRecDepth 100000 in
theorem read_any (s : ByteArray) (w : World) (hs : s.size ≤ 140737488351232) (hP : Pows w) (hE : Errs w) :
    Calls Tryd.prog 13 #[.string s] w fun e w' => e = .returned (tupR (readP s)) ∧ Fut w w' := by
  have HP := Lib.hid hP
  have HE := Lib.hid hE
  have HI := Lib.hid (fun w hE => pint_any s w hs hE)
  obtain ⟨R, hR⟩ : ∃ R, readP s = R := ⟨_, rfl⟩
  rw [hR]
  have HR := Lib.hid hR
  clear hR hP hE
  go_enter Tryd.func13, Tryd.ntmps13
  go_wp2_with fail
  refine (HI.out _ (HE.out.fut ((Fut.alloc _ _).trans (Fut.alloc _ _)))).mono ?_
  rintro e w1 ⟨hpi, h1⟩
  have F1 := Lib.hid (((Fut.alloc _ _).trans (Fut.alloc _ _)).trans h1)
  have c0 : w1.cell? ⟨w.heap.size, 0, none⟩ = some (.int .i8 0) := h1.cell (by go_simp)
  have c1 : w1.cell? ⟨w.heap.size, 1, none⟩ = some (.int .i64 0) := h1.cell (by go_simp)
  have c2 : w1.cell? ⟨w.heap.size, 2, none⟩ = some (.string ⟨#[]⟩) := h1.cell (by go_simp)
  have b0 : w1.cell? ⟨w.heap.size + 1, 0, none⟩ = some (.int .i8 2) := h1.cell (by go_simp)
  have b1 : w1.cell? ⟨w.heap.size + 1, 1, none⟩ = some (.int .i64 0) := h1.cell (by go_simp)
  have b2 : w1.cell? ⟨w.heap.size + 1, 2, none⟩ = some (.string s) := h1.cell (by go_simp)
  have z0 : w1.frozen? ⟨w.heap.size, 0, none⟩ = false := h1.free (by simp <;> omega) (by go_simp)
  have z1 : w1.frozen? ⟨w.heap.size, 1, none⟩ = false := h1.free (by simp <;> omega) (by go_simp)
  have z2 : w1.frozen? ⟨w.heap.size, 2, none⟩ = false := h1.free (by simp <;> omega) (by go_simp)
  have y0 : w1.frozen? ⟨w.heap.size + 1, 0, none⟩ = false := h1.free (by simp <;> omega) (by go_simp)
  have y1 : w1.frozen? ⟨w.heap.size + 1, 1, none⟩ = false := h1.free (by simp <;> omega) (by go_simp)
  have y2 : w1.frozen? ⟨w.heap.size + 1, 2, none⟩ = false := h1.free (by simp <;> omega) (by go_simp)
  have hsz1 : w.heap.size + 1 < w1.heap.size := by have := h1.size; simp at this; omega
  have hsz : w.heap.size < w1.heap.size := by omega
  clear h1
  rcases hpi with ⟨n, hn, rfl⟩ | ⟨hno, u, te, pe, rfl⟩
  · have hRS : Hid (readS s (some (numV n)) = R) := Lib.hid (by rw [← HR.out]; unfold readP readC; rw [hn])
    have hnr : -9223372036854775808 ≤ n ∧ n ≤ 9223372036854775807 := by have := Lib.parseIntB_bounds hn; omega
    have HO := Lib.hid (numV_ok n (in_wf hnr))
    clear hn hnr
    have HS := Lib.hid (fun w hP => show_any (numV n) w HO.out hP)
    have hres := Lib.hid (show readS s (some (numV n)) = if showV (numV n) = (s, 0) then (numV n, 0) else (noV, 10) from rfl)
    obtain ⟨p, hp0⟩ : ∃ p, showV (numV n) = p := ⟨_, rfl⟩
    rw [hp0] at HS hres
    rw [hRS.out] at hres
    obtain ⟨a, b⟩ := p
    simp only [tupS, V.val, numV, txtV] at HS
    clear hp0
    go_wp2_with fail
    refine (HS.out _ (HP.out.fut ?hf1)).mono ?_
    case hf1 => exact ((F1.out.set (Nat.le_succ _) _).set (Nat.le_succ _) _).set (Nat.le_succ _) _
    rintro e w9 ⟨rfl, h9⟩
    have F9 := Lib.hid ((((F1.out.set (Nat.le_succ _) _).set (Nat.le_succ _) _).set (Nat.le_succ _) _).trans h9)
    have c0' : w9.cell? ⟨w.heap.size, 0, none⟩ = some (.int .i8 0) := h9.cell (by go_simp)
    have c1' : w9.cell? ⟨w.heap.size, 1, none⟩ = some (.int .i64 0) := h9.cell (by go_simp)
    have c2' : w9.cell? ⟨w.heap.size, 2, none⟩ = some (.string ⟨#[]⟩) := h9.cell (by go_simp)
    have b0' : w9.cell? ⟨w.heap.size + 1, 0, none⟩ = some (.int .i8 (1)) := h9.cell (by go_simp)
    have b1' : w9.cell? ⟨w.heap.size + 1, 1, none⟩ = some (.int .i64 (n)) := h9.cell (by go_simp)
    have b2' : w9.cell? ⟨w.heap.size + 1, 2, none⟩ = some (.string (⟨#[]⟩)) := h9.cell (by go_simp)
    have z0' : w9.frozen? ⟨w.heap.size, 0, none⟩ = false := h9.free (by simp <;> omega) (by go_simp)
    have z1' : w9.frozen? ⟨w.heap.size, 1, none⟩ = false := h9.free (by simp <;> omega) (by go_simp)
    have z2' : w9.frozen? ⟨w.heap.size, 2, none⟩ = false := h9.free (by simp <;> omega) (by go_simp)
    by_cases hc : (a, b) = (s, 0)
    · have hr := Lib.hid (hres.out.trans (if_pos hc))
      injection hc with ha hb
      have ha2 := ha.symm
      subst ha2; subst hb
      clear hres
      go_wp2
      exact bodyPost_ret (v := tupR (numV n, 0)) (by simp [results, Tryd.results13, go_sem, tupR, numV, txtV, V.val, c0', c1', c2', z0', z1', z2', b0', b1', b2']) rfl ⟨by rw [hr.out], ((F9.out.set (Nat.le_refl _) _).set (Nat.le_refl _) _).set (Nat.le_refl _) _⟩
    · have hr := Lib.hid (hres.out.trans (if_neg hc))
      clear hres
      by_cases hb : b = 0
      · have ha : (a.toList == s.toList) = false := by
          rw [beq_eq_false_iff_ne]
          intro e
          rw [ByteArray.toList_eq, ByteArray.toList_eq] at e
          exact hc (by rw [WideShapes.bytes_inj e, hb])
        subst hb
        clear hc
        go_wp2
        exact bodyPost_ret (v := tupR (noV, 10)) (by simp [results, Tryd.results13, go_sem, tupR, noV, V.val, c0', c1', c2', z0', z1', z2']) rfl ⟨by rw [hr.out], by first | exact F9.out | exact ((F9.out.set (Nat.le_refl _) _).set (Nat.le_refl _) _).set (Nat.le_refl _) _⟩
      · have hb1 : (b == 0) = false := by simpa using hb
        have hb2 : (b != 0) = true := by simpa using hb
        clear hc hb
        go_wp2
        exact bodyPost_ret (v := tupR (noV, 10)) (by simp [results, Tryd.results13, go_sem, tupR, noV, V.val, c0', c1', c2', z0', z1', z2']) rfl ⟨by rw [hr.out], by first | exact F9.out | exact ((F9.out.set (Nat.le_refl _) _).set (Nat.le_refl _) _).set (Nat.le_refl _) _⟩
  · have HNO := Lib.hid (show readC s = readQ s by
      unfold readC
      cases hp : Lib.parseIntB 64 s.data.toList with
      | ok n => exact absurd hp (hno n)
      | «syntax» => rfl
      | range => rfl)
    clear hno
    by_cases h2 : s.size < 2
    · have hRS : Hid (readS s (some (txtV s)) = R) := Lib.hid (by rw [← HR.out]; unfold readP; rw [HNO.out, readQ, if_neg (by rw [inQ, ← Lib.size_eq]; simp; omega)])
      have d1 : ¬ (2 : Int) ≤ s.size := by omega
      have d2 : ¬ 2 ≤ s.size := by omega
      clear h2 HNO
      have HS := Lib.hid (fun w hP => show_any (txtV s) w (txt_okM s hs) hP)
      have hres := Lib.hid (show readS s (some (txtV s)) = if showV (txtV s) = (s, 0) then (txtV s, 0) else (noV, 10) from rfl)
      obtain ⟨p, hp0⟩ : ∃ p, showV (txtV s) = p := ⟨_, rfl⟩
      rw [hp0] at HS hres
      rw [hRS.out] at hres
      obtain ⟨a, b⟩ := p
      simp only [tupS, V.val, numV, txtV] at HS
      clear hp0
      go_wp2_with fail
      refine (HS.out _ (HP.out.fut ?hf1)).mono ?_
      case hf1 => exact F1.out
      rintro e w9 ⟨rfl, h9⟩
      have F9 := Lib.hid ((F1.out).trans h9)
      have c0' : w9.cell? ⟨w.heap.size, 0, none⟩ = some (.int .i8 0) := h9.cell (by go_simp)
      have c1' : w9.cell? ⟨w.heap.size, 1, none⟩ = some (.int .i64 0) := h9.cell (by go_simp)
      have c2' : w9.cell? ⟨w.heap.size, 2, none⟩ = some (.string ⟨#[]⟩) := h9.cell (by go_simp)
      have b0' : w9.cell? ⟨w.heap.size + 1, 0, none⟩ = some (.int .i8 (2)) := h9.cell (by go_simp)
      have b1' : w9.cell? ⟨w.heap.size + 1, 1, none⟩ = some (.int .i64 (0)) := h9.cell (by go_simp)
      have b2' : w9.cell? ⟨w.heap.size + 1, 2, none⟩ = some (.string (s)) := h9.cell (by go_simp)
      have z0' : w9.frozen? ⟨w.heap.size, 0, none⟩ = false := h9.free (by simp <;> omega) (by go_simp)
      have z1' : w9.frozen? ⟨w.heap.size, 1, none⟩ = false := h9.free (by simp <;> omega) (by go_simp)
      have z2' : w9.frozen? ⟨w.heap.size, 2, none⟩ = false := h9.free (by simp <;> omega) (by go_simp)
      by_cases hc : (a, b) = (s, 0)
      · have hr := Lib.hid (hres.out.trans (if_pos hc))
        injection hc with ha hb
        have ha2 := ha.symm
        subst ha2; subst hb
        clear hres
        go_wp2
        exact bodyPost_ret (v := tupR (txtV s, 0)) (by simp [results, Tryd.results13, go_sem, tupR, numV, txtV, V.val, c0', c1', c2', z0', z1', z2', b0', b1', b2']) rfl ⟨by rw [hr.out], ((F9.out.set (Nat.le_refl _) _).set (Nat.le_refl _) _).set (Nat.le_refl _) _⟩
      · have hr := Lib.hid (hres.out.trans (if_neg hc))
        clear hres
        by_cases hb : b = 0
        · have ha : (a.toList == s.toList) = false := by
            rw [beq_eq_false_iff_ne]
            intro e
            rw [ByteArray.toList_eq, ByteArray.toList_eq] at e
            exact hc (by rw [WideShapes.bytes_inj e, hb])
          subst hb
          clear hc
          go_wp2
          exact bodyPost_ret (v := tupR (noV, 10)) (by simp [results, Tryd.results13, go_sem, tupR, noV, V.val, c0', c1', c2', z0', z1', z2']) rfl ⟨by rw [hr.out], by first | exact F9.out | exact ((F9.out.set (Nat.le_refl _) _).set (Nat.le_refl _) _).set (Nat.le_refl _) _⟩
        · have hb1 : (b == 0) = false := by simpa using hb
          have hb2 : (b != 0) = true := by simpa using hb
          clear hc hb
          go_wp2
          exact bodyPost_ret (v := tupR (noV, 10)) (by simp [results, Tryd.results13, go_sem, tupR, noV, V.val, c0', c1', c2', z0', z1', z2']) rfl ⟨by rw [hr.out], by first | exact F9.out | exact ((F9.out.set (Nat.le_refl _) _).set (Nat.le_refl _) _).set (Nat.le_refl _) _⟩
    · obtain ⟨m, hm⟩ : ∃ m, s.size = m + 2 := ⟨s.size - 2, by omega⟩
      have hm1 : m + 1 < s.size := by omega
      have hm0 : 0 < s.size := by omega
      have hIQ := Lib.hid (show inQ s.data.toList = (s[0].toNat == 34 && s[m + 1].toNat == 34) by
        rw [inQ, ← Lib.size_eq, getDk s 0 hm0, show s.size - 1 = m + 1 by omega, getDk s (m + 1) hm1, decide_eq_true (show 2 ≤ s.size by omega), Bool.true_and])
      have d1 : (2 : Int) ≤ s.size := by omega
      have hmm : (s.size : Int) - 1 = ((m + 1 : Nat) : Int) := by omega
      have HM := Lib.hid hm
      clear h2 hm
      by_cases q0 : s[0].toNat = 34
      · have d2 : ((s[0].toNat : Int) == 34) = true := by simp [q0]
        by_cases q1 : s[m + 1].toNat = 34
        · have d3 : ((s[m + 1].toNat : Int) == 34) = true := by simp [q1]
          have hIT := Lib.hid (show inQ s.data.toList = true by rw [hIQ.out, q0, q1]; rfl)
          have hcut := Lib.hid (show (s.extract 1 (m + 1)).data.toList = (s.data.toList.drop 1).take (s.size - 2) by rw [cut_list2, HM.out]; rfl)
          have hcs : (s.extract 1 (m + 1)).size ≤ 140737488351232 := by rw [ByteArray.size_extract]; omega
          have HS2 := Lib.hid (fun w hE => said_any (s.extract 1 (m + 1)) w hcs hE)
          rw [hcut.out] at HS2
          clear q0 q1 hIQ hcut hcs
          cases hsd : saidS ((s.data.toList.drop 1).take (s.size - 2)) with
          | none =>
            have hr := Lib.hid (show R = (noV, 10) by rw [← HR.out]; unfold readP; rw [HNO.out, readQ, if_pos hIT.out, hsd]; rfl)
            rw [hsd] at HS2
            simp only [saidV] at HS2
            clear hsd HNO hIT
            go_wp2_with fail
            refine (HS2.out _ (HE.out.fut F1.out)).mono ?_
            rintro e w2 ⟨rfl, h2⟩
            have c0' := h2.cell c0
            have c1' := h2.cell c1
            have c2' := h2.cell c2
            have z0' := h2.free hsz z0
            have z1' := h2.free hsz z1
            have z2' := h2.free hsz z2
            go_wp2
            exact bodyPost_ret (v := tupR (noV, 10)) (by simp [results, Tryd.results13, go_sem, tupR, noV, V.val, c0', c1', c2', z0', z1', z2']) rfl ⟨by rw [hr.out], by first | exact F1.out.trans h2 | exact (((F1.out.trans h2).set (Nat.le_refl _) _).set (Nat.le_refl _) _).set (Nat.le_refl _) _⟩
          | some t =>
            have hRS : Hid (readS s (some (txtV ⟨t.toArray⟩)) = R) := Lib.hid (by rw [← HR.out]; unfold readP; rw [HNO.out, readQ, if_pos hIT.out, hsd]; rfl)
            have hok : (txtV ⟨t.toArray⟩).ok := txt_okM _ (by
              rw [Lib.size_eq]
              have h3 := saidS_len _ _ hsd
              rw [List.length_take, List.length_drop, ← Lib.size_eq] at h3
              show t.length ≤ _
              omega)
            rw [hsd] at HS2
            simp only [saidV] at HS2
            obtain ⟨q, hq⟩ : ∃ q : ByteArray, ⟨t.toArray⟩ = q := ⟨_, rfl⟩
            rw [hq] at hRS hok HS2
            clear hsd HNO hIT hq
            go_wp2_with fail
            refine (HS2.out _ (HE.out.fut F1.out)).mono ?_
            rintro e w2 ⟨rfl, h2⟩
            have F2 := Lib.hid (F1.out.trans h2)
            replace y0 := h2.free hsz1 y0
            replace y1 := h2.free hsz1 y1
            replace y2 := h2.free hsz1 y2
            replace z0 := h2.free hsz z0
            replace z1 := h2.free hsz z1
            replace z2 := h2.free hsz z2
            replace c0 := h2.cell c0
            replace c1 := h2.cell c1
            replace c2 := h2.cell c2
            replace b0 := h2.cell b0
            replace b1 := h2.cell b1
            replace b2 := h2.cell b2
            replace hsz := Nat.lt_of_lt_of_le hsz h2.size
            replace hsz1 := Nat.lt_of_lt_of_le hsz1 h2.size
            clear h2
            have HS := Lib.hid (fun w hP => show_any (txtV q) w hok hP)
            have hres := Lib.hid (show readS s (some (txtV q)) = if showV (txtV q) = (s, 0) then (txtV q, 0) else (noV, 10) from rfl)
            obtain ⟨p, hp0⟩ : ∃ p, showV (txtV q) = p := ⟨_, rfl⟩
            rw [hp0] at HS hres
            rw [hRS.out] at hres
            obtain ⟨a, b⟩ := p
            simp only [tupS, V.val, numV, txtV] at HS
            clear hp0
            go_wp2_with fail
            refine (HS.out _ (HP.out.fut ?hf1)).mono ?_
            case hf1 => exact F2.out.set (Nat.le_succ _) _
            rintro e w9 ⟨rfl, h9⟩
            have F9 := Lib.hid ((F2.out.set (Nat.le_succ _) _).trans h9)
            have c0' : w9.cell? ⟨w.heap.size, 0, none⟩ = some (.int .i8 0) := h9.cell (by go_simp)
            have c1' : w9.cell? ⟨w.heap.size, 1, none⟩ = some (.int .i64 0) := h9.cell (by go_simp)
            have c2' : w9.cell? ⟨w.heap.size, 2, none⟩ = some (.string ⟨#[]⟩) := h9.cell (by go_simp)
            have b0' : w9.cell? ⟨w.heap.size + 1, 0, none⟩ = some (.int .i8 (2)) := h9.cell (by go_simp)
            have b1' : w9.cell? ⟨w.heap.size + 1, 1, none⟩ = some (.int .i64 (0)) := h9.cell (by go_simp)
            have b2' : w9.cell? ⟨w.heap.size + 1, 2, none⟩ = some (.string (q)) := h9.cell (by go_simp)
            have z0' : w9.frozen? ⟨w.heap.size, 0, none⟩ = false := h9.free (by simp <;> omega) (by go_simp)
            have z1' : w9.frozen? ⟨w.heap.size, 1, none⟩ = false := h9.free (by simp <;> omega) (by go_simp)
            have z2' : w9.frozen? ⟨w.heap.size, 2, none⟩ = false := h9.free (by simp <;> omega) (by go_simp)
            by_cases hc : (a, b) = (s, 0)
            · have hr := Lib.hid (hres.out.trans (if_pos hc))
              injection hc with ha hb
              have ha2 := ha.symm
              subst ha2; subst hb
              clear hres
              go_wp2
              exact bodyPost_ret (v := tupR (txtV q, 0)) (by simp [results, Tryd.results13, go_sem, tupR, numV, txtV, V.val, c0', c1', c2', z0', z1', z2', b0', b1', b2']) rfl ⟨by rw [hr.out], ((F9.out.set (Nat.le_refl _) _).set (Nat.le_refl _) _).set (Nat.le_refl _) _⟩
            · have hr := Lib.hid (hres.out.trans (if_neg hc))
              clear hres
              by_cases hb : b = 0
              · have ha : (a.toList == s.toList) = false := by
                  rw [beq_eq_false_iff_ne]
                  intro e
                  rw [ByteArray.toList_eq, ByteArray.toList_eq] at e
                  exact hc (by rw [WideShapes.bytes_inj e, hb])
                subst hb
                clear hc
                go_wp2
                exact bodyPost_ret (v := tupR (noV, 10)) (by simp [results, Tryd.results13, go_sem, tupR, noV, V.val, c0', c1', c2', z0', z1', z2']) rfl ⟨by rw [hr.out], by first | exact F9.out | exact ((F9.out.set (Nat.le_refl _) _).set (Nat.le_refl _) _).set (Nat.le_refl _) _⟩
              · have hb1 : (b == 0) = false := by simpa using hb
                have hb2 : (b != 0) = true := by simpa using hb
                clear hc hb
                go_wp2
                exact bodyPost_ret (v := tupR (noV, 10)) (by simp [results, Tryd.results13, go_sem, tupR, noV, V.val, c0', c1', c2', z0', z1', z2']) rfl ⟨by rw [hr.out], by first | exact F9.out | exact ((F9.out.set (Nat.le_refl _) _).set (Nat.le_refl _) _).set (Nat.le_refl _) _⟩

        · have d3 : ((s[m + 1].toNat : Int) == 34) = false := by simp; omega
          have hRS : Hid (readS s (some (txtV s)) = R) := Lib.hid (by rw [← HR.out]; unfold readP; rw [HNO.out, readQ, if_neg (by rw [hIQ.out]; simp; omega)])
          clear q0 q1 HNO hIQ
          have HS := Lib.hid (fun w hP => show_any (txtV s) w (txt_okM s hs) hP)
          have hres := Lib.hid (show readS s (some (txtV s)) = if showV (txtV s) = (s, 0) then (txtV s, 0) else (noV, 10) from rfl)
          obtain ⟨p, hp0⟩ : ∃ p, showV (txtV s) = p := ⟨_, rfl⟩
          rw [hp0] at HS hres
          rw [hRS.out] at hres
          obtain ⟨a, b⟩ := p
          simp only [tupS, V.val, numV, txtV] at HS
          clear hp0
          go_wp2_with fail
          refine (HS.out _ (HP.out.fut ?hf1)).mono ?_
          case hf1 => exact F1.out
          rintro e w9 ⟨rfl, h9⟩
          have F9 := Lib.hid ((F1.out).trans h9)
          have c0' : w9.cell? ⟨w.heap.size, 0, none⟩ = some (.int .i8 0) := h9.cell (by go_simp)
          have c1' : w9.cell? ⟨w.heap.size, 1, none⟩ = some (.int .i64 0) := h9.cell (by go_simp)
          have c2' : w9.cell? ⟨w.heap.size, 2, none⟩ = some (.string ⟨#[]⟩) := h9.cell (by go_simp)
          have b0' : w9.cell? ⟨w.heap.size + 1, 0, none⟩ = some (.int .i8 (2)) := h9.cell (by go_simp)
          have b1' : w9.cell? ⟨w.heap.size + 1, 1, none⟩ = some (.int .i64 (0)) := h9.cell (by go_simp)
          have b2' : w9.cell? ⟨w.heap.size + 1, 2, none⟩ = some (.string (s)) := h9.cell (by go_simp)
          have z0' : w9.frozen? ⟨w.heap.size, 0, none⟩ = false := h9.free (by simp <;> omega) (by go_simp)
          have z1' : w9.frozen? ⟨w.heap.size, 1, none⟩ = false := h9.free (by simp <;> omega) (by go_simp)
          have z2' : w9.frozen? ⟨w.heap.size, 2, none⟩ = false := h9.free (by simp <;> omega) (by go_simp)
          by_cases hc : (a, b) = (s, 0)
          · have hr := Lib.hid (hres.out.trans (if_pos hc))
            injection hc with ha hb
            have ha2 := ha.symm
            subst ha2; subst hb
            clear hres
            go_wp2
            exact bodyPost_ret (v := tupR (txtV s, 0)) (by simp [results, Tryd.results13, go_sem, tupR, numV, txtV, V.val, c0', c1', c2', z0', z1', z2', b0', b1', b2']) rfl ⟨by rw [hr.out], ((F9.out.set (Nat.le_refl _) _).set (Nat.le_refl _) _).set (Nat.le_refl _) _⟩
          · have hr := Lib.hid (hres.out.trans (if_neg hc))
            clear hres
            by_cases hb : b = 0
            · have ha : (a.toList == s.toList) = false := by
                rw [beq_eq_false_iff_ne]
                intro e
                rw [ByteArray.toList_eq, ByteArray.toList_eq] at e
                exact hc (by rw [WideShapes.bytes_inj e, hb])
              subst hb
              clear hc
              go_wp2
              exact bodyPost_ret (v := tupR (noV, 10)) (by simp [results, Tryd.results13, go_sem, tupR, noV, V.val, c0', c1', c2', z0', z1', z2']) rfl ⟨by rw [hr.out], by first | exact F9.out | exact ((F9.out.set (Nat.le_refl _) _).set (Nat.le_refl _) _).set (Nat.le_refl _) _⟩
            · have hb1 : (b == 0) = false := by simpa using hb
              have hb2 : (b != 0) = true := by simpa using hb
              clear hc hb
              go_wp2
              exact bodyPost_ret (v := tupR (noV, 10)) (by simp [results, Tryd.results13, go_sem, tupR, noV, V.val, c0', c1', c2', z0', z1', z2']) rfl ⟨by rw [hr.out], by first | exact F9.out | exact ((F9.out.set (Nat.le_refl _) _).set (Nat.le_refl _) _).set (Nat.le_refl _) _⟩
      · have d2 : ((s[0].toNat : Int) == 34) = false := by simp; omega
        have hRS : Hid (readS s (some (txtV s)) = R) := Lib.hid (by rw [← HR.out]; unfold readP; rw [HNO.out, readQ, if_neg (by rw [hIQ.out]; simp; omega)])
        clear q0 HNO hIQ
        have HS := Lib.hid (fun w hP => show_any (txtV s) w (txt_okM s hs) hP)
        have hres := Lib.hid (show readS s (some (txtV s)) = if showV (txtV s) = (s, 0) then (txtV s, 0) else (noV, 10) from rfl)
        obtain ⟨p, hp0⟩ : ∃ p, showV (txtV s) = p := ⟨_, rfl⟩
        rw [hp0] at HS hres
        rw [hRS.out] at hres
        obtain ⟨a, b⟩ := p
        simp only [tupS, V.val, numV, txtV] at HS
        clear hp0
        go_wp2_with fail
        refine (HS.out _ (HP.out.fut ?hf1)).mono ?_
        case hf1 => exact F1.out
        rintro e w9 ⟨rfl, h9⟩
        have F9 := Lib.hid ((F1.out).trans h9)
        have c0' : w9.cell? ⟨w.heap.size, 0, none⟩ = some (.int .i8 0) := h9.cell (by go_simp)
        have c1' : w9.cell? ⟨w.heap.size, 1, none⟩ = some (.int .i64 0) := h9.cell (by go_simp)
        have c2' : w9.cell? ⟨w.heap.size, 2, none⟩ = some (.string ⟨#[]⟩) := h9.cell (by go_simp)
        have b0' : w9.cell? ⟨w.heap.size + 1, 0, none⟩ = some (.int .i8 (2)) := h9.cell (by go_simp)
        have b1' : w9.cell? ⟨w.heap.size + 1, 1, none⟩ = some (.int .i64 (0)) := h9.cell (by go_simp)
        have b2' : w9.cell? ⟨w.heap.size + 1, 2, none⟩ = some (.string (s)) := h9.cell (by go_simp)
        have z0' : w9.frozen? ⟨w.heap.size, 0, none⟩ = false := h9.free (by simp <;> omega) (by go_simp)
        have z1' : w9.frozen? ⟨w.heap.size, 1, none⟩ = false := h9.free (by simp <;> omega) (by go_simp)
        have z2' : w9.frozen? ⟨w.heap.size, 2, none⟩ = false := h9.free (by simp <;> omega) (by go_simp)
        by_cases hc : (a, b) = (s, 0)
        · have hr := Lib.hid (hres.out.trans (if_pos hc))
          injection hc with ha hb
          have ha2 := ha.symm
          subst ha2; subst hb
          clear hres
          go_wp2
          exact bodyPost_ret (v := tupR (txtV s, 0)) (by simp [results, Tryd.results13, go_sem, tupR, numV, txtV, V.val, c0', c1', c2', z0', z1', z2', b0', b1', b2']) rfl ⟨by rw [hr.out], ((F9.out.set (Nat.le_refl _) _).set (Nat.le_refl _) _).set (Nat.le_refl _) _⟩
        · have hr := Lib.hid (hres.out.trans (if_neg hc))
          clear hres
          by_cases hb : b = 0
          · have ha : (a.toList == s.toList) = false := by
              rw [beq_eq_false_iff_ne]
              intro e
              rw [ByteArray.toList_eq, ByteArray.toList_eq] at e
              exact hc (by rw [WideShapes.bytes_inj e, hb])
            subst hb
            clear hc
            go_wp2
            exact bodyPost_ret (v := tupR (noV, 10)) (by simp [results, Tryd.results13, go_sem, tupR, noV, V.val, c0', c1', c2', z0', z1', z2']) rfl ⟨by rw [hr.out], by first | exact F9.out | exact ((F9.out.set (Nat.le_refl _) _).set (Nat.le_refl _) _).set (Nat.le_refl _) _⟩
          · have hb1 : (b == 0) = false := by simpa using hb
            have hb2 : (b != 0) = true := by simpa using hb
            clear hc hb
            go_wp2
            exact bodyPost_ret (v := tupR (noV, 10)) (by simp [results, Tryd.results13, go_sem, tupR, noV, V.val, c0', c1', c2', z0', z1', z2']) rfl ⟨by rw [hr.out], by first | exact F9.out | exact ((F9.out.set (Nat.le_refl _) _).set (Nat.le_refl _) _).set (Nat.le_refl _) _⟩
end Go.Proofs.YtlihkmldclocoaaDoor
