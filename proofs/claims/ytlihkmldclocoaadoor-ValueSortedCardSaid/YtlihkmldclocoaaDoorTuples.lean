/- value.Tuples: the tuples in their order, each once, in memory of the call's own. -/
import Derived.Test.YtlihkmldclocoaaDoorSortX
import Derived.Test.YtlihkmldclocoaaDoorTupW
namespace Go.Proofs.YtlihkmldclocoaaDoor
open Go.RowKit
set_option linter.unusedSimpArgs false
set_option linter.unusedVariables false

/-- A slice literal of one tuple. -/
theorem tup_one {B : Nat} {ev : TypeId} {w : World} {A : Option Addr} {n c : Nat} {x : List V} (e : TypeId) (h : OwnV B ev w (.slice A n c) x) : SlRep 1 1 (RTo B ev) (w.alloc (.cells #[.slice A n c] e)) (.slice (some ⟨w.heap.size, 0, none⟩) 1 1) [x] := by
  refine ⟨_, 1, rfl, Nat.le_refl _, Nat.le_refl _, fun i y hy => ⟨w.heap.size, 0, [.slice A n c], rfl, rfl, fun j u hj => ?_, ?_⟩⟩
  · have hil : i < 1 := (List.getElem?_eq_some_iff.1 hy).1
    have hjl : j < 1 := (List.getElem?_eq_some_iff.1 hj).1
    obtain rfl : i = 0 := by omega
    obtain rfl : j = 0 := by omega
    refine (World.cell?_alloc_mark w _ _ (0, 0) _).trans ?_
    simpa using hj
  · have hil : i < 1 := (List.getElem?_eq_some_iff.1 hy).1
    obtain rfl : i = 0 := by omega
    simp only [List.getElem?_cons_zero, Option.some.injEq] at hy
    subst hy
    exact ⟨_, rfl, OwnL.fut RV.stays h (Fut.alloc _ _)⟩
theorem RTo.base {B B' : Nat} {ev : TypeId} {w : World} {cs : List Value} {x : List V} (h : RTo B ev w cs x) (hB : B' ≤ B) : RTo B' ev w cs x := by
  obtain ⟨v, h1, h2⟩ := h
  exact ⟨v, h1, h2.base hB⟩
theorem OwnT.base {B B' : Nat} {e ev : TypeId} {w : World} {v : Value} {xs : List (List V)} (h : OwnL 1 B e (RTo B ev) w v xs) (hB : B' ≤ B) : OwnL 1 B' e (RTo B' ev) w v xs :=
  (h.imp fun _ _ hr => hr.base hB).base hB
theorem tyVT : 27 ≠ 24 := by decide

set_option maxHeartbeats 1000000 in
set_option maxRecDepth 100000 in
theorem tuples_any (a : Value) (ts : List (List V)) (w : World) (ha : Tups w a ts) (hb : ts.length ≤ 1000000000000) (hl : ∀ t ∈ ts, t.length ≤ 4398046511104) :
    Calls Tryd.prog 25 #[a] w fun e w' => ∃ v, e = .returned v ∧ OwnL 1 w.heap.size 24 (RTo w.heap.size 27) w' v (sortU cmpT ts) ∧ Fut w w' := by
  have HL := Lib.hid hl
  have HA := Lib.hid ha
  have HBN := Lib.hid hb
  obtain ⟨A0, cap0, rfl, _, _⟩ := SlRep.form ha
  clear hl ha hb
  go_enter Tryd.func25, Tryd.ntmps25
  go_wp2_with fail
  refine (clone_T _ ts _ HA.out (by have := HBN.out; omega)).mono ?_
  rintro e w1 ⟨t, rfl, hO, h1⟩
  go_wp2_with fail
  refine (sortT_any w w1 h1 t ts hO (by have := HBN.out; omega)).mono ?_
  rintro e w2 ⟨rfl, ts', hperm, hsort, hT, h2⟩
  have HU := Lib.hid (sortU_congr (c := cmpT) (ord_tot ordT) (fun x => hperm.mem_iff (a := x)))
  have HL' := Lib.hid (show ∀ t ∈ ts', t.length ≤ 4398046511104 from fun t ht => HL.out t (hperm.mem_iff.1 ht))
  have hlen := hperm.length_eq
  have HBN' := Lib.hid (show ts'.length ≤ 1000000000000 by rw [hlen]; exact HBN.out)
  have HS := Lib.hid hsort
  have H2 := Lib.hid h2
  have HT := Lib.hid hT
  obtain ⟨A, cap, rfl, hcl, hcm⟩ := SlRep.form hT
  clear hO h1 hperm hsort h2 hT hlen HA HL HBN
  go_wp2
  go_loopw [4, 13] (fun o i wr => ∃ (k : Nat) (xs : List (List V)), k ≤ ts'.length ∧ i = .int .i64 k ∧ Hid (UpOf cmpT (ts'.take k) xs) ∧ Hid (xs.length ≤ k) ∧ Hid (OwnL 1 w2.heap.size 24 (RTo w2.heap.size 27) wr o xs) ∧ Hid (Fut w2 wr)) (fun _ i _ => ts'.length - (intOf i).toNat)
  case atStart => exact ⟨0, [], Nat.zero_le _, rfl, Lib.hid ⟨by simp [Up], by simp⟩, Lib.hid (Nat.le_refl _), Lib.hid OwnL.nil, Lib.hid (Fut.refl _)⟩
  case round =>
    obtain ⟨k, xs, hk, rfl, hU, hxl, hO, hF⟩ := hrel
    by_cases hlt : k < ts'.length
    · obtain ⟨b, off, A', cp, rfl, x0, hq1, hq2, hv⟩ := Tups.at_ (HT.out.fut RT.stays hF.out) hlt
      have HV := Lib.hid hv
      have hlk := Lib.hid (HL'.out _ (List.getElem_mem hlt))
      clear hv
      by_cases hk0 : k = 0
      · subst hk0
        simp only [Nat.add_zero] at x0
        have hkeep := Lib.hid (UpOf.keep (ord_tot ordT) HS.out hlt hU.out (.inl rfl))
        go_wp2_with fail
        refine (clone_V _ (ts'[0]'(by omega)) _ (HV.out.fut RV.stays (Fut.refl _)) hlk.out).mono ?_
        rintro e w4 ⟨v4, rfl, hO4, h4⟩
        have F4 := Lib.hid (hF.out.trans h4)
        have hO5 : OwnV w2.heap.size 27 w4 v4 (ts'[0]'(by omega)) := OwnL.base hO4 (hF.out).size
        obtain ⟨A4, cp4, rfl, _, _⟩ := SlRep.form hO5.vals
        have HO5 := Lib.hid hO5
        have OO := Lib.hid (hO.out.fut RTo.stays ((Fut.refl _).trans h4))
        clear hO4 hO5 h4
        go_wp2_with (at_builtin; refine wpList_append_L (R := RTo w2.heap.size 27) (B := w2.heap.size) (xs := xs) (ys := [ts'[0]'(by omega)]) (e := 24) (by go_simp) _ _ 43 rfl Tryd.underlying43 (.slice none 0 0) 24 infoT rfl (by decide) RTo.one (RTo.keeps tyVT) rfl rfl (OO.out.fut RTo.stays (Fut.alloc _ _)) (tup_one _ HO5.out) ?l1 ?l2 ?b1 ?k1)
        case l1 => have := hxl.out; have := HBN'.out; simp [maxLen]; omega
        case l2 => have := hxl.out; have := HBN'.out; simp; omega
        case b1 => have := F4.out.size; simp; omega
        case k1 =>
        intro v' w' o' g'
        have F' := Lib.hid (Fut.grown (F4.out.trans (Fut.alloc _ _)) g' (fun k hk => (OO.out.block k hk).1))
        have O' := Lib.hid o'
        have X' := Lib.hid (show (xs ++ [ts'[0]'(by omega)]).length ≤ 0 + 1 by have := hxl.out; rw [List.length_append, List.length_singleton]; omega)
        clear g' o'
        go_wp2
        exact ⟨⟨0 + 1, _, by omega, by go_num, hkeep, X', O', F'⟩, by simp [intOf] <;> omega⟩
      · obtain ⟨m, rfl⟩ : ∃ m, k = m + 1 := ⟨k - 1, by omega⟩
        obtain ⟨b', off', B', cp', he, y0, hq3, hq4, hv'⟩ := Tups.at_ (HT.out.fut RT.stays hF.out) (show m < ts'.length by omega)
        injection he with he
        injection he with he1 he2
        subst he1; subst he2
        have HV' := Lib.hid hv'
        clear hv'
        by_cases hc : cmpT (ts'[m]'(by omega)) ts'[m + 1] = 0
        · have hdrop := Lib.hid (UpOf.drop (ord_tot ordT) hlt hU.out (Nat.succ_pos _) hc)
          have d1 : (cmpT (ts'[m]'(by omega)) ts'[m + 1] != 0) = false := by simpa using hc
          have X' := Lib.hid (Nat.le_succ_of_le hxl.out)
          clear hc
          go_wp2_with fail
          refine (cmpT_any _ _ (ts'[m]'(by omega)) ts'[m + 1] _ HV'.out HV.out).mono ?_
          rintro e w3 ⟨rfl, h3⟩
          go_wp2
          exact ⟨⟨m + 1 + 1, xs, by omega, by go_num, hdrop, X', Lib.hid (hO.out.fut RTo.stays h3), Lib.hid (hF.out.trans h3)⟩, by simp [intOf] <;> omega⟩
        · have hkeep := Lib.hid (UpOf.keep (ord_tot ordT) HS.out hlt hU.out (.inr ⟨by omega, hc⟩))
          have d1 : (cmpT (ts'[m]'(by omega)) ts'[m + 1] != 0) = true := by simpa using hc
          clear hc
          go_wp2_with fail
          refine (cmpT_any _ _ (ts'[m]'(by omega)) ts'[m + 1] _ HV'.out HV.out).mono ?_
          rintro e w3 ⟨rfl, h3⟩
          go_wp2_with fail
          refine (clone_V _ (ts'[m + 1]'(by omega)) _ (HV.out.fut RV.stays h3) hlk.out).mono ?_
          rintro e w4 ⟨v4, rfl, hO4, h4⟩
          have F4 := Lib.hid ((hF.out.trans h3).trans h4)
          have hO5 : OwnV w2.heap.size 27 w4 v4 (ts'[m + 1]'(by omega)) := OwnL.base hO4 ((hF.out.trans h3)).size
          obtain ⟨A4, cp4, rfl, _, _⟩ := SlRep.form hO5.vals
          have HO5 := Lib.hid hO5
          have OO := Lib.hid (hO.out.fut RTo.stays (h3.trans h4))
          clear hO4 hO5 h4
          go_wp2_with (at_builtin; refine wpList_append_L (R := RTo w2.heap.size 27) (B := w2.heap.size) (xs := xs) (ys := [ts'[m + 1]'(by omega)]) (e := 24) (by go_simp) _ _ 43 rfl Tryd.underlying43 (.slice none 0 0) 24 infoT rfl (by decide) RTo.one (RTo.keeps tyVT) rfl rfl (OO.out.fut RTo.stays (Fut.alloc _ _)) (tup_one _ HO5.out) ?l1 ?l2 ?b1 ?k1)
          case l1 => have := hxl.out; have := HBN'.out; simp [maxLen]; omega
          case l2 => have := hxl.out; have := HBN'.out; simp; omega
          case b1 => have := F4.out.size; simp; omega
          case k1 =>
          intro v' w' o' g'
          have F' := Lib.hid (Fut.grown (F4.out.trans (Fut.alloc _ _)) g' (fun k hk => (OO.out.block k hk).1))
          have O' := Lib.hid o'
          have X' := Lib.hid (show (xs ++ [ts'[m + 1]'(by omega)]).length ≤ m + 1 + 1 by have := hxl.out; rw [List.length_append, List.length_singleton]; omega)
          clear g' o'
          go_wp2
          exact ⟨⟨m + 1 + 1, _, by omega, by go_num, hkeep, X', O', F'⟩, by simp [intOf] <;> omega⟩
    · obtain rfl : k = ts'.length := by omega
      have hR := Lib.hid (show sortU cmpT ts = xs by
        have h3 := hU.out
        rw [List.take_length] at h3
        rw [← HU.out]; exact (h3.eq (ord_tot ordT)).symm)
      go_wp2
      go_ret
      exact ⟨_, rfl, by rw [hR.out]; exact OwnT.base hO.out H2.out.size, H2.out.trans hF.out⟩
end Go.Proofs.YtlihkmldclocoaaDoor
