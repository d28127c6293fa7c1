/- RelationSplits, walked. Printed by splits.py. -/
import Derived.Test.YtcekphjcmippoaaRelS
namespace Go.Proofs.Ytcekphjcmippoaa
open Go.RowKit Go.WideMaps
set_option linter.unusedSimpArgs false
set_option linter.unusedVariables false

set_option maxHeartbeats 8000000 in
set_option maxRecDepth 100000 in
theorem splits_walk (v0 v1 v2 : Value) (l m n : List Tn) (w : World) (M : Nat) (h0 : SlRep 25 M RTn w v0 l) (h1 : SlRep 25 M RTn w v1 m) (h2 : SlRep 25 M RTn w v2 n)
    (hl : l.length ≤ 1048576) (hm : m.length ≤ 1048576) (hn : n.length ≤ 1048576) :
    Calls Try.prog 3 #[v0, v1, v2] w fun e w' => e = .returned (.bool true) ∧ Fut w w' := by
  have H0 := Lib.hid h0
  have H1 := Lib.hid h1
  have H2 := Lib.hid h2
  obtain ⟨A0, cap0, rfl, hc0, _⟩ := h0.form
  obtain ⟨A1, cap1, rfl, hc1, _⟩ := h1.form
  obtain ⟨A2, cap2, rfl, hc2, _⟩ := h2.form
  clear h0 h1 h2
  go_enter Try.func3, Try.ntmps3
  go_wp2_with fail
  refine (lives10 _).mono ?_
  rintro e w1 ⟨rfl, f1⟩
  go_wp2_with fail
  refine (turned_any 3 (by omega) _ l w1 M (by omega) (H0.out.fut RTn.stays f1)).mono ?_
  rintro e w2 ⟨b, pb, mb, lv, rv, rfl, hR, hO, hA, f2⟩
  have hT0 := Lib.hid (rfl : turnsL 3 l = turnsL 3 l)
  have hsum0 := foldT_sum ([], 0) l
  have hright := Lib.hid (turns_right 3 l ([], 0) (fun x h => by simp at h))
  have hfold : turnsL 3 l = foldT ([], 0) l := rfl
  have hright' : ∀ x ∈ (turnsL 3 l).1, rightP 3 x = true := hright.out
  rw [← hfold] at hsum0
  clear hfold hright hT0
  generalize hT : turnsL 3 l = T at hR hO hsum0 hright'
  obtain ⟨xs, g⟩ := T
  simp only [List.length_nil, Nat.zero_add] at hR hO hsum0 hright'
  have HRight := Lib.hid hright'
  clear hright'
  have F2 := Lib.hid (f1.trans f2)
  have hw1 : w.heap.size ≤ w1.heap.size := f1.size
  obtain ⟨Ar, capr, rfl, hcr, _⟩ := hO.rep.form
  go_wp2_with fail
  refine (clone_any hR (by omega)).mono ?_
  rintro e w3 ⟨b', pb', mb', lvc, rfl, hC, f3⟩
  have HT3 := Lib.hid (show Two w.heap.size w3 b pb mb lv g xs b' pb' mb' lvc 0 xs (.slice Ar xs.length capr) xs from
    ⟨(hR.fut f3).weaken hw1, hC.weaken F2.out.size, (hO.fut RR.stays f3).base hw1, fun j h1 h2 => by have := hR.lt j h1; have := hC.ge j h2; omega, hA, fun j h1 h2 => by have := (hO.block j h1).2; have := hC.ge j h2; omega⟩)
  have HF3 := Lib.hid (F2.out.trans f3)
  clear hR hO hA hC f1 f2 f3 F2
  go_wp2_with fail
  refine (arity_any HT3.out.hc).mono ?_
  rintro e w4 ⟨rfl, hw4⟩
  have hw4' := hw4.symm
  subst hw4'
  go_wp2_with fail
  refine (gone_any HT3.out.hc).mono ?_
  rintro e w4 ⟨rfl, hw4⟩
  have hw4' := hw4.symm
  subst hw4'
  go_wp2_with fail
  refine (len_any HT3.out.hc).mono ?_
  rintro e w4 ⟨rfl, hw4⟩
  have hw4' := hw4.symm
  subst hw4'
  go_wp2
  obtain ⟨SR, hSR⟩ : ∃ S : List Rw × Nat, S = (xs, g) := ⟨_, rfl⟩
  obtain ⟨SC, hSC⟩ : ∃ S : List Rw × Nat, S = (xs, 0) := ⟨_, rfl⟩
  have hsr := foldT_sum SR
  have hsc := foldT_sum SC
  have HsumR := Lib.hid (show ∀ k, (foldT SR (m.take k)).1.length + (foldT SR (m.take k)).2 ≤ 3145728 from fun k => by have := foldT_sum SR (m.take k); rw [hSR] at this ⊢; simp only [List.length_take] at this; omega)
  have HsumC := Lib.hid (show ∀ k, (foldT SC (n.take k)).1.length + (foldT SC (n.take k)).2 ≤ 3145728 from fun k => by have := foldT_sum SC (n.take k); rw [hSC] at this ⊢; simp only [List.length_take] at this; omega)
  clear hsr hsc
  go_loopw [11] (fun i wr => ∃ (k : Nat) (lvr lvc : Value), k ≤ max m.length n.length ∧ i = .int .i64 k ∧
    Hid (Two w.heap.size wr b pb mb lvr (foldT SR (m.take k)).2 (foldT SR (m.take k)).1 b' pb' mb' lvc (foldT SC (n.take k)).2 (foldT SC (n.take k)).1 (.slice Ar xs.length capr) xs) ∧ Hid (Fut w wr)) (fun i _ => max m.length n.length - (intOf i).toNat)
  case atStart => exact ⟨0, _, _, Nat.zero_le _, rfl, Lib.hid (by simp only [List.take_zero]; rw [hSR, hSC]; exact HT3.out), HF3⟩
  case round =>
    obtain ⟨k, lvr, lvc, hk, rfl, HT7, HF7⟩ := hrel
    by_cases hlt : k < max m.length n.length
    · have hbr := HsumR.out k
      have hbc := HsumC.out k
      generalize hSr : foldT SR (m.take k) = Sr at HT7 hbr
      generalize hSc : foldT SC (n.take k) = Sc at HT7 hbc
      obtain ⟨xr, gr⟩ := Sr
      obtain ⟨xc, gc⟩ := Sc
      simp only at HT7 hbr hbc
      by_cases hkr : k < m.length
      · cases hoffr : (m[k]).off with
        | true =>
          have hltr : (k : Int) < m.length := by omega
          have hinr : (0 : Int) ≤ k ∧ (k : Int) < m.length := by omega
          have hstepr := foldT_take SR m k hkr
          rw [hSr] at hstepr
          obtain ⟨grb, offr, rfl, ctr0, hrowr0⟩ := turn_at H1.out hkr
          have ctr := HF7.out.cell ctr0
          have hrowr := hrowr0.fut HF7.out
          clear ctr0 hrowr0
          generalize m[k] = tr at ctr hrowr hstepr hoffr
          obtain ⟨toffr, rowr⟩ := tr
          simp only at ctr hrowr hoffr
          subst hoffr
          have hokr := hrowr.1
          have hTr : turnL 3 (xr, gr) (⟨true, rowr⟩ : Tn) = (xr.erase rowr, gr + (decide (rowr ∈ xr)).toNat) := by simp [turnL]
          rw [hTr] at hstepr
          go_wp2_with (first | (refine wpList_load_R rowTy (wanted_none rfl _) _ rfl rfl hrowr ?_))
          refine (remove_any (HT7.out).hr HF7.out.size rowr hokr (by omega) (by omega)).mono ?_
          rintro e w8 ⟨rfl, lv8, hR8, hO8, hV8⟩
          have HT8 := Lib.hid (((HT7.out).left hR8 hO8 hV8))
          have HF8 := Lib.hid (((Only.fut HF7.out).trans (hO8.mono (S' := fun k => w.heap.size ≤ k) fun k _ hk => (HT7.out).hr.ge k hk)).toFut fun k hk => hk)
          clear hR8 hO8 hV8
          by_cases hkc : k < n.length
          · cases hoffc : (n[k]).off with
            | true =>
              have hltc : (k : Int) < n.length := by omega
              have hinc : (0 : Int) ≤ k ∧ (k : Int) < n.length := by omega
              have hstepc := foldT_take SC n k hkc
              rw [hSc] at hstepc
              obtain ⟨gcb, offc, rfl, ctc0, hrowc0⟩ := turn_at H2.out hkc
              have ctc := HF8.out.cell ctc0
              have hrowc := hrowc0.fut HF8.out
              clear ctc0 hrowc0
              generalize n[k] = tc at ctc hrowc hstepc hoffc
              obtain ⟨toffc, rowc⟩ := tc
              simp only at ctc hrowc hoffc
              subst hoffc
              have hokc := hrowc.1
              have hTc : turnL 3 (xc, gc) (⟨true, rowc⟩ : Tn) = (xc.erase rowc, gc + (decide (rowc ∈ xc)).toNat) := by simp [turnL]
              rw [hTc] at hstepc
              go_wp2_with (first | (refine wpList_load_R rowTy (wanted_none rfl _) _ rfl rfl hrowc ?_))
              refine (remove_any (HT8.out.swap).hr HF8.out.size rowc hokc (by omega) (by omega)).mono ?_
              rintro e w9 ⟨rfl, lv9, hR9, hO9, hV9⟩
              have HT9 := Lib.hid (((HT8.out.swap).left hR9 hO9 hV9).swap)
              have HF9 := Lib.hid (((Only.fut HF8.out).trans (hO9.mono (S' := fun k => w.heap.size ≤ k) fun k _ hk => (HT8.out.swap).hr.ge k hk)).toFut fun k hk => hk)
              clear hR9 hO9 hV9
              go_wp2
              go_roundw
              case rel => exact ⟨k + 1, _, _, by omega, by go_num, Lib.hid (by rw [hstepr, hstepc]; exact HT9.out), HF9⟩
              case measure => simp [intOf] <;> omega
            | false =>
              have hltc : (k : Int) < n.length := by omega
              have hinc : (0 : Int) ≤ k ∧ (k : Int) < n.length := by omega
              have hstepc := foldT_take SC n k hkc
              rw [hSc] at hstepc
              obtain ⟨gcb, offc, rfl, ctc0, hrowc0⟩ := turn_at H2.out hkc
              have ctc := HF8.out.cell ctc0
              have hrowc := hrowc0.fut HF8.out
              clear ctc0 hrowc0
              generalize n[k] = tc at ctc hrowc hstepc hoffc
              obtain ⟨toffc, rowc⟩ := tc
              simp only at ctc hrowc hoffc
              subst hoffc
              have hokc := hrowc.1
              have hTc : turnL 3 (xc, gc) (⟨false, rowc⟩ : Tn) = (addL 3 xc rowc, gc) := by simp [turnL]
              rw [hTc] at hstepc
              go_wp2_with (first | (refine wpList_load_R rowTy (wanted_none rfl _) _ rfl rfl hrowc ?_))
              refine (add_any (HT8.out.swap).hr HF8.out.size rowc hokc (by omega)).mono ?_
              rintro e w9 ⟨rfl, lv9, hR9, hO9, hV9⟩
              have HT9 := Lib.hid (((HT8.out.swap).left hR9 (hO9.mono fun k _ hk => .inr hk) hV9).swap)
              have HF9 := Lib.hid (((Only.fut HF8.out).trans (hO9.mono (S' := fun k => w.heap.size ≤ k) fun k _ hk => (HT8.out.swap).hr.pl.ge k hk)).toFut fun k hk => hk)
              clear hR9 hO9 hV9
              go_wp2
              go_roundw
              case rel => exact ⟨k + 1, _, _, by omega, by go_num, Lib.hid (by rw [hstepr, hstepc]; exact HT9.out), HF9⟩
              case measure => simp [intOf] <;> omega
          · have hstepc := foldT_past SC n k (by omega)
            rw [hSc] at hstepc
            have hgec : ¬ (k : Int) < n.length := by omega
            have HT9 := HT8
            have HF9 := HF8
            go_wp2
            go_roundw
            case rel => exact ⟨k + 1, _, _, by omega, by go_num, Lib.hid (by rw [hstepr, hstepc]; exact HT9.out), HF9⟩
            case measure => simp [intOf] <;> omega
        | false =>
          have hltr : (k : Int) < m.length := by omega
          have hinr : (0 : Int) ≤ k ∧ (k : Int) < m.length := by omega
          have hstepr := foldT_take SR m k hkr
          rw [hSr] at hstepr
          obtain ⟨grb, offr, rfl, ctr0, hrowr0⟩ := turn_at H1.out hkr
          have ctr := HF7.out.cell ctr0
          have hrowr := hrowr0.fut HF7.out
          clear ctr0 hrowr0
          generalize m[k] = tr at ctr hrowr hstepr hoffr
          obtain ⟨toffr, rowr⟩ := tr
          simp only at ctr hrowr hoffr
          subst hoffr
          have hokr := hrowr.1
          have hTr : turnL 3 (xr, gr) (⟨false, rowr⟩ : Tn) = (addL 3 xr rowr, gr) := by simp [turnL]
          rw [hTr] at hstepr
          go_wp2_with (first | (refine wpList_load_R rowTy (wanted_none rfl _) _ rfl rfl hrowr ?_))
          refine (add_any (HT7.out).hr HF7.out.size rowr hokr (by omega)).mono ?_
          rintro e w8 ⟨rfl, lv8, hR8, hO8, hV8⟩
          have HT8 := Lib.hid (((HT7.out).left hR8 (hO8.mono fun k _ hk => .inr hk) hV8))
          have HF8 := Lib.hid (((Only.fut HF7.out).trans (hO8.mono (S' := fun k => w.heap.size ≤ k) fun k _ hk => (HT7.out).hr.pl.ge k hk)).toFut fun k hk => hk)
          clear hR8 hO8 hV8
          by_cases hkc : k < n.length
          · cases hoffc : (n[k]).off with
            | true =>
              have hltc : (k : Int) < n.length := by omega
              have hinc : (0 : Int) ≤ k ∧ (k : Int) < n.length := by omega
              have hstepc := foldT_take SC n k hkc
              rw [hSc] at hstepc
              obtain ⟨gcb, offc, rfl, ctc0, hrowc0⟩ := turn_at H2.out hkc
              have ctc := HF8.out.cell ctc0
              have hrowc := hrowc0.fut HF8.out
              clear ctc0 hrowc0
              generalize n[k] = tc at ctc hrowc hstepc hoffc
              obtain ⟨toffc, rowc⟩ := tc
              simp only at ctc hrowc hoffc
              subst hoffc
              have hokc := hrowc.1
              have hTc : turnL 3 (xc, gc) (⟨true, rowc⟩ : Tn) = (xc.erase rowc, gc + (decide (rowc ∈ xc)).toNat) := by simp [turnL]
              rw [hTc] at hstepc
              go_wp2_with (first | (refine wpList_load_R rowTy (wanted_none rfl _) _ rfl rfl hrowc ?_))
              refine (remove_any (HT8.out.swap).hr HF8.out.size rowc hokc (by omega) (by omega)).mono ?_
              rintro e w9 ⟨rfl, lv9, hR9, hO9, hV9⟩
              have HT9 := Lib.hid (((HT8.out.swap).left hR9 hO9 hV9).swap)
              have HF9 := Lib.hid (((Only.fut HF8.out).trans (hO9.mono (S' := fun k => w.heap.size ≤ k) fun k _ hk => (HT8.out.swap).hr.ge k hk)).toFut fun k hk => hk)
              clear hR9 hO9 hV9
              go_wp2
              go_roundw
              case rel => exact ⟨k + 1, _, _, by omega, by go_num, Lib.hid (by rw [hstepr, hstepc]; exact HT9.out), HF9⟩
              case measure => simp [intOf] <;> omega
            | false =>
              have hltc : (k : Int) < n.length := by omega
              have hinc : (0 : Int) ≤ k ∧ (k : Int) < n.length := by omega
              have hstepc := foldT_take SC n k hkc
              rw [hSc] at hstepc
              obtain ⟨gcb, offc, rfl, ctc0, hrowc0⟩ := turn_at H2.out hkc
              have ctc := HF8.out.cell ctc0
              have hrowc := hrowc0.fut HF8.out
              clear ctc0 hrowc0
              generalize n[k] = tc at ctc hrowc hstepc hoffc
              obtain ⟨toffc, rowc⟩ := tc
              simp only at ctc hrowc hoffc
              subst hoffc
              have hokc := hrowc.1
              have hTc : turnL 3 (xc, gc) (⟨false, rowc⟩ : Tn) = (addL 3 xc rowc, gc) := by simp [turnL]
              rw [hTc] at hstepc
              go_wp2_with (first | (refine wpList_load_R rowTy (wanted_none rfl _) _ rfl rfl hrowc ?_))
              refine (add_any (HT8.out.swap).hr HF8.out.size rowc hokc (by omega)).mono ?_
              rintro e w9 ⟨rfl, lv9, hR9, hO9, hV9⟩
              have HT9 := Lib.hid (((HT8.out.swap).left hR9 (hO9.mono fun k _ hk => .inr hk) hV9).swap)
              have HF9 := Lib.hid (((Only.fut HF8.out).trans (hO9.mono (S' := fun k => w.heap.size ≤ k) fun k _ hk => (HT8.out.swap).hr.pl.ge k hk)).toFut fun k hk => hk)
              clear hR9 hO9 hV9
              go_wp2
              go_roundw
              case rel => exact ⟨k + 1, _, _, by omega, by go_num, Lib.hid (by rw [hstepr, hstepc]; exact HT9.out), HF9⟩
              case measure => simp [intOf] <;> omega
          · have hstepc := foldT_past SC n k (by omega)
            rw [hSc] at hstepc
            have hgec : ¬ (k : Int) < n.length := by omega
            have HT9 := HT8
            have HF9 := HF8
            go_wp2
            go_roundw
            case rel => exact ⟨k + 1, _, _, by omega, by go_num, Lib.hid (by rw [hstepr, hstepc]; exact HT9.out), HF9⟩
            case measure => simp [intOf] <;> omega
      · have hstepr := foldT_past SR m k (by omega)
        rw [hSr] at hstepr
        have hger : ¬ (k : Int) < m.length := by omega
        have HT8 := HT7
        have HF8 := HF7
        by_cases hkc : k < n.length
        · cases hoffc : (n[k]).off with
          | true =>
            have hltc : (k : Int) < n.length := by omega
            have hinc : (0 : Int) ≤ k ∧ (k : Int) < n.length := by omega
            have hstepc := foldT_take SC n k hkc
            rw [hSc] at hstepc
            obtain ⟨gcb, offc, rfl, ctc0, hrowc0⟩ := turn_at H2.out hkc
            have ctc := HF8.out.cell ctc0
            have hrowc := hrowc0.fut HF8.out
            clear ctc0 hrowc0
            generalize n[k] = tc at ctc hrowc hstepc hoffc
            obtain ⟨toffc, rowc⟩ := tc
            simp only at ctc hrowc hoffc
            subst hoffc
            have hokc := hrowc.1
            have hTc : turnL 3 (xc, gc) (⟨true, rowc⟩ : Tn) = (xc.erase rowc, gc + (decide (rowc ∈ xc)).toNat) := by simp [turnL]
            rw [hTc] at hstepc
            go_wp2_with (first | (refine wpList_load_R rowTy (wanted_none rfl _) _ rfl rfl hrowc ?_))
            refine (remove_any (HT8.out.swap).hr HF8.out.size rowc hokc (by omega) (by omega)).mono ?_
            rintro e w9 ⟨rfl, lv9, hR9, hO9, hV9⟩
            have HT9 := Lib.hid (((HT8.out.swap).left hR9 hO9 hV9).swap)
            have HF9 := Lib.hid (((Only.fut HF8.out).trans (hO9.mono (S' := fun k => w.heap.size ≤ k) fun k _ hk => (HT8.out.swap).hr.ge k hk)).toFut fun k hk => hk)
            clear hR9 hO9 hV9
            go_wp2
            go_roundw
            case rel => exact ⟨k + 1, _, _, by omega, by go_num, Lib.hid (by rw [hstepr, hstepc]; exact HT9.out), HF9⟩
            case measure => simp [intOf] <;> omega
          | false =>
            have hltc : (k : Int) < n.length := by omega
            have hinc : (0 : Int) ≤ k ∧ (k : Int) < n.length := by omega
            have hstepc := foldT_take SC n k hkc
            rw [hSc] at hstepc
            obtain ⟨gcb, offc, rfl, ctc0, hrowc0⟩ := turn_at H2.out hkc
            have ctc := HF8.out.cell ctc0
            have hrowc := hrowc0.fut HF8.out
            clear ctc0 hrowc0
            generalize n[k] = tc at ctc hrowc hstepc hoffc
            obtain ⟨toffc, rowc⟩ := tc
            simp only at ctc hrowc hoffc
            subst hoffc
            have hokc := hrowc.1
            have hTc : turnL 3 (xc, gc) (⟨false, rowc⟩ : Tn) = (addL 3 xc rowc, gc) := by simp [turnL]
            rw [hTc] at hstepc
            go_wp2_with (first | (refine wpList_load_R rowTy (wanted_none rfl _) _ rfl rfl hrowc ?_))
            refine (add_any (HT8.out.swap).hr HF8.out.size rowc hokc (by omega)).mono ?_
            rintro e w9 ⟨rfl, lv9, hR9, hO9, hV9⟩
            have HT9 := Lib.hid (((HT8.out.swap).left hR9 (hO9.mono fun k _ hk => .inr hk) hV9).swap)
            have HF9 := Lib.hid (((Only.fut HF8.out).trans (hO9.mono (S' := fun k => w.heap.size ≤ k) fun k _ hk => (HT8.out.swap).hr.pl.ge k hk)).toFut fun k hk => hk)
            clear hR9 hO9 hV9
            go_wp2
            go_roundw
            case rel => exact ⟨k + 1, _, _, by omega, by go_num, Lib.hid (by rw [hstepr, hstepc]; exact HT9.out), HF9⟩
            case measure => simp [intOf] <;> omega
        · have hstepc := foldT_past SC n k (by omega)
          rw [hSc] at hstepc
          have hgec : ¬ (k : Int) < n.length := by omega
          have HT9 := HT8
          have HF9 := HF8
          exact absurd hlt (by omega)
    · have hmt : m.take k = m := List.take_of_length_le (by omega)
      have hnt : n.take k = n := List.take_of_length_le (by omega)
      have hbr := HsumR.out k
      have hbc := HsumC.out k
      rw [hmt] at HT7 hbr
      rw [hnt] at HT7 hbc
      have hge1 : ¬ (k : Int) < m.length := by omega
      have hge2 : ¬ (k : Int) < n.length := by omega
      generalize hSr : foldT SR m = Sr at HT7 hbr
      generalize hSc : foldT SC n = Sc at HT7 hbc
      obtain ⟨xr, gr⟩ := Sr
      obtain ⟨xc, gc⟩ := Sc
      simp only at HT7 hbr hbc
      obtain ⟨wq, hwq⟩ : ∃ x, x = wr := ⟨_, rfl⟩
      subst hwq
      go_wp2_with (first | (refine wpList_append_T (wanted_none rfl _) _ _ rfl rfl rfl (OwnL.nil (B := wq.heap.size)) (H0.out.fut RTn.stays HF7.out) (by simp; omega) (Nat.le_refl _) ?_; intro vA wA hOA _ hGA) | (refine wpList_append_T (wanted_none rfl _) _ _ rfl rfl rfl hOA (H1.out.fut RTn.stays (HF7.out.trans ((Fut.refl _).grown hGA (fun k h => by cases h)))) (by simp; omega) hGA.size ?_; intro vB wB hOB _ hGB))
      have fA := (Fut.refl wq).grown hGA (fun k h => by cases h)
      have fB := fA.grown hGB (fun j hj => (hOA.block j hj).1)
      have hLT : turnsL 3 ([] ++ l ++ m) = (xr, gr) := by rw [List.nil_append, foldT_turns, hT, ← hSR, hSr]
      refine (turned_any 3 (by omega) vB ([] ++ l ++ m) wB maxLen (by simp; omega) hOB.rep).mono ?_
      rintro e w10 ⟨ba, pa, ma, lva, ra, rfl, hRa, hOa, _, fa⟩
      rw [hLT] at hRa hOa
      simp only at hRa hOa
      have F10 := Lib.hid ((HF7.out.trans fB).trans fa)
      have HT10 := Lib.hid (HT7.out.fut (fB.trans fa))
      have HRa := Lib.hid hRa
      have HOa := Lib.hid hOa
      obtain ⟨Aa, capa, rfl, hca, _⟩ := hOa.rep.form
      clear hRa hOa fa fB fA hOA hGA hOB hGB
      go_wp2_with fail
      refine (len_any HRa.out).mono ?_
      rintro e w11 ⟨rfl, hw11⟩
      have hw11' := hw11.symm
      subst hw11'
      go_wp2_with fail
      refine (len_any HT10.out.hr).mono ?_
      rintro e w11 ⟨rfl, hw11⟩
      have hw11' := hw11.symm
      subst hw11'
      go_wp2_with fail
      refine (gone_any HRa.out).mono ?_
      rintro e w11 ⟨rfl, hw11⟩
      have hw11' := hw11.symm
      subst hw11'
      go_wp2_with fail
      refine (gone_any HT10.out.hr).mono ?_
      rintro e w11 ⟨rfl, hw11⟩
      have hw11' := hw11.symm
      subst hw11'
      go_wp2
      go_loopw [14, 15] (fun v i wr => ∃ k : Nat, k ≤ xs.length ∧ i = .int .i64 k ∧ Hid (OwnL 25 w10.heap.size 34 RTn wr v ((xs.take k).map fun x => (⟨false, x⟩ : Tn))) ∧ Hid (Fut w10 wr)) (fun _ i _ => xs.length - (intOf i).toNat)
      case atStart => exact ⟨0, Nat.zero_le _, rfl, Lib.hid OwnL.nil, Lib.hid (Fut.refl _)⟩
      case round =>
        obtain ⟨k, hk, rfl, hO, hG⟩ := hrel
        by_cases hlt : k < xs.length
        · obtain ⟨gx, offx, rfl, hrx⟩ := rows_at (HT10.out.ho.fut RR.stays hG.out).rep hlt
          have hin : (0 : Int) ≤ k ∧ (k : Int) < xs.length := by omega
          have htk : xs.take (k + 1) = xs.take k ++ [xs[k]] := List.take_succ_eq_append_getElem hlt
          generalize xs[k] = y at hrx htk
          have hy := hrx.1
          have hOa := hO.out.fut RTn.stays (Fut.alloc wr (.cells (Value.bool (⟨false, y⟩ : Tn).off :: Rw.cells y).toArray 34))
          have hRo := turnOne wr (t := ⟨false, y⟩) hy
          have hLa : ((xs.take k).map fun x => (⟨false, x⟩ : Tn)).length + [(⟨false, y⟩ : Tn)].length ≤ 1407374883512 := by simp; omega
          have hBa : w10.heap.size ≤ (wr.alloc (.cells (Value.bool (⟨false, y⟩ : Tn).off :: Rw.cells y).toArray 34)).heap.size := by have := hG.out.size; simp; omega
          go_wp2_with (first | (refine wpList_load_R rowTy (wanted_none rfl _) _ rfl rfl hrx ?_) | (refine wpList_of_run (wanted_none rfl _) (exec_turn _ rfl rfl hy) ?_) | (refine wpList_of_run (wanted_none rfl _) (exec_one_T (t := ⟨false, y⟩) _ rfl rfl hy) ?_) | (refine wpList_append_T (wanted_none rfl _) _ _ rfl rfl rfl hOa hRo hLa hBa ?_; intro v6 w6 hO6 _ hG6))
          go_roundw
          case rel => exact ⟨k + 1, by omega, by go_num, Lib.hid (by rw [htk, List.map_append]; exact hO6), Lib.hid ((hG.out.trans (Fut.alloc _ _)).grown hG6 fun j hj => (hOa.block j hj).1)⟩
          case measure => simp [intOf] <;> omega
        · obtain rfl : k = xs.length := by omega
          rw [List.take_length] at hO
          obtain ⟨wp, hwp⟩ : ∃ x, x = wr := ⟨_, rfl⟩
          subst hwp
          have hOg := hO.out
          go_wp2_with (first | (refine wpList_append_T (wanted_none rfl _) _ _ rfl rfl rfl hOg (H2.out.fut RTn.stays (F10.out.trans hG.out)) (by simp; omega) hG.out.size ?_; intro vB wB hOB _ hGB))
          have fB := hG.out.grown hGB (fun j hj => (hOg.block j hj).1)
          have hLB : turnsL 3 ((xs.map fun x => (⟨false, x⟩ : Tn)) ++ n) = (xc, gc) := by
            rw [foldT_turns, show turnsL 3 (xs.map fun x => (⟨false, x⟩ : Tn)) = SC from by rw [hSC]; exact again_turns [] xs HRight.out (by simpa using HT3.out.hr.pl.nodup), hSc]
          refine (turned_any 3 (by omega) vB ((xs.map fun x => (⟨false, x⟩ : Tn)) ++ n) wB maxLen (by simp; omega) hOB.rep).mono ?_
          rintro e w12 ⟨bb, pb2, mb2, lvb, rb, rfl, hRb, hOb, _, fb⟩
          rw [hLB] at hRb hOb
          simp only at hRb hOb
          have HT12 := Lib.hid (HT10.out.fut (fB.trans fb))
          have HRb := Lib.hid hRb
          have HOb := Lib.hid hOb
          have HOa2 := Lib.hid (HOa.out.fut RR.stays (fB.trans fb))
          have F12 := Lib.hid (F10.out.trans (fB.trans fb))
          obtain ⟨Ab, capb, rfl, hcb, _⟩ := hOb.rep.form
          clear hRb hOb fb fB hOB hGB hO hG hOg
          go_wp2_with fail
          refine (len_any HRb.out).mono ?_
          rintro e w11 ⟨rfl, hw11⟩
          have hw11' := hw11.symm
          subst hw11'
          go_wp2_with fail
          refine (len_any HT12.out.hc).mono ?_
          rintro e w11 ⟨rfl, hw11⟩
          have hw11' := hw11.symm
          subst hw11'
          go_wp2_with fail
          refine (gone_any HRb.out).mono ?_
          rintro e w11 ⟨rfl, hw11⟩
          have hw11' := hw11.symm
          subst hw11'
          go_wp2_with fail
          refine (gone_any HT12.out.hc).mono ?_
          rintro e w11 ⟨rfl, hw11⟩
          have hw11' := hw11.symm
          subst hw11'
          go_wp2
          go_loopw [18] (fun i wr => ∃ k : Nat, k ≤ xr.length ∧ i = .int .i64 k ∧ Hid (Fut w12 wr)) (fun i _ => xr.length - (intOf i).toNat)
          case atStart => exact ⟨0, Nat.zero_le _, rfl, Lib.hid (Fut.refl _)⟩
          case round =>
            obtain ⟨k, hk, rfl, hG⟩ := hrel
            by_cases hlt : k < xr.length
            · obtain ⟨gx, offx, rfl, hrx⟩ := rows_at (HOa2.out.fut RR.stays hG.out).rep hlt
              have hin : (0 : Int) ≤ k ∧ (k : Int) < xr.length := by omega
              go_wp2_with fail
              refine (at_any (HT12.out.hr.fut hG.out) k hlt).mono ?_
              rintro e w13 ⟨rfl, f13⟩
              generalize xr[k] = y at hrx
              have hy := hrx.1
              go_wp2_with (first | (refine wpList_store_new rowTy (wanted_none rfl _) _ _ rfl rfl rfl rfl hy ?_))
              have hr14 := RowAt.new w13 32 hy
              have f14 := f13.trans (Fut.alloc w13 (.cells (Rw.cells y).toArray 32))
              obtain ⟨w14, hw14⟩ : ∃ x, w13.alloc (.cells (Rw.cells y).toArray 32) = x := ⟨_, rfl⟩
              rw [hw14] at hr14 f14 ⊢
              clear hw14 f13
              have hrx14 := hrx.fut f14
              refine wp_graph 10 [.d, .d, .d, .d, .d, .d, .d, .d, .d, .d] (by kernel_rfl) (by kernel_rfl) (by kernel_rfl) ?_
              simp only [List.take_succ_cons, List.take_zero, List.drop_succ_cons, List.drop_zero, Exs]
              iterate 10 apply Exists.intro
              apply Run.valG (wanted_none rfl _)
              · intro w1 h1 hk
                have hg := (Fut.drew _).trans h1
                have hcw := fun b o => Below.cell (p := ⟨b, o, none⟩) h1
                go_simp; rfl
              simp only [Act.put, List.setIfInBounds_toArray, List.set_cons_succ, List.set_cons_zero, List.nil_append, List.cons_append]
              apply Run.valG (wanted_none rfl _)
              · intro w1 h1 hk
                have hg := (Fut.drew _).trans h1
                have hcw := fun b o => Below.cell (p := ⟨b, o, none⟩) h1
                go_simp; rfl
              simp only [Act.put, List.setIfInBounds_toArray, List.set_cons_succ, List.set_cons_zero, List.nil_append, List.cons_append]
              apply Run.valG (wanted_none rfl _)
              · intro w1 h1 hk
                have hg := (Fut.drew _).trans h1
                have hcw := fun b o => Below.cell (p := ⟨b, o, none⟩) h1
                go_simp; rfl
              simp only [Act.put, List.setIfInBounds_toArray, List.set_cons_succ, List.set_cons_zero, List.nil_append, List.cons_append]
              apply Run.valG (by go_simp)
              · intro w1 h1 hk
                have hg := (Fut.drew _).trans h1
                have hcw := fun b o => Below.cell (p := ⟨b, o, none⟩) h1
                exact exec_load_R rowTy _ rfl rfl (hr14.fut hg)
              simp only [Act.put, List.setIfInBounds_toArray, List.set_cons_succ, List.set_cons_zero, List.nil_append, List.cons_append]
              apply Run.valG (by go_simp)
              · intro w1 h1 hk
                have hg := (Fut.drew _).trans h1
                have hcw := fun b o => Below.cell (p := ⟨b, o, none⟩) h1
                go_simp; rfl
              simp only [Act.put, List.setIfInBounds_toArray, List.set_cons_succ, List.set_cons_zero, List.nil_append, List.cons_append]
              apply Run.valG (by go_simp)
              · intro w1 h1 hk
                have hg := (Fut.drew _).trans h1
                have hcw := fun b o => Below.cell (p := ⟨b, o, none⟩) h1
                go_simp; rfl
              simp only [Act.put, List.setIfInBounds_toArray, List.set_cons_succ, List.set_cons_zero, List.nil_append, List.cons_append]
              apply Run.valG (by go_simp)
              · intro w1 h1 hk
                have hg := (Fut.drew _).trans h1
                have hcw := fun b o => Below.cell (p := ⟨b, o, none⟩) h1
                go_simp; rfl
              simp only [Act.put, List.setIfInBounds_toArray, List.set_cons_succ, List.set_cons_zero, List.nil_append, List.cons_append]
              apply Run.valG (by go_simp)
              · intro w1 h1 hk
                have hg := (Fut.drew _).trans h1
                have hcw := fun b o => Below.cell (p := ⟨b, o, none⟩) h1
                exact exec_load_R rowTy _ rfl rfl (hrx14.fut hg)
              simp only [Act.put, List.setIfInBounds_toArray, List.set_cons_succ, List.set_cons_zero, List.nil_append, List.cons_append]
              apply Run.valG (by go_simp)
              · intro w1 h1 hk
                have hg := (Fut.drew _).trans h1
                have hcw := fun b o => Below.cell (p := ⟨b, o, none⟩) h1
                exact exec_neq_R rowTy noGuard _ _ _ rfl rfl rfl hy hy
              simp only [Act.put, List.setIfInBounds_toArray, List.set_cons_succ, List.set_cons_zero, List.nil_append, List.cons_append]
              apply Run.valG (wanted_none rfl _)
              · intro w1 h1 hk
                have hg := (Fut.drew _).trans h1
                have hcw := fun b o => Below.cell (p := ⟨b, o, none⟩) h1
                go_simp; rfl
              simp only [Act.put, List.setIfInBounds_toArray, List.set_cons_succ, List.set_cons_zero, List.nil_append, List.cons_append]
              apply Run.done
              intro w2 h2 hk
              clear hk
              go_wp2
              go_roundw
              case rel => exact ⟨k + 1, by omega, by go_num, Lib.hid (hG.out.trans (f14.trans ((Fut.drew _).trans h2)))⟩
              case measure => simp [intOf] <;> omega
            · obtain rfl : k = xr.length := by omega
              have hG1 := hG
              obtain ⟨ws, hws⟩ : ∃ x, x = wr := ⟨_, rfl⟩
              subst hws
              have HOb2 := Lib.hid (HOb.out.fut RR.stays hG1.out)
              clear hG
              go_wp2
              go_loopw [21] (fun i wr => ∃ k : Nat, k ≤ xc.length ∧ i = .int .i64 k ∧ Hid (Fut ws wr)) (fun i _ => xc.length - (intOf i).toNat)
              case atStart => exact ⟨0, Nat.zero_le _, rfl, Lib.hid (Fut.refl _)⟩
              case round =>
                obtain ⟨k, hk, rfl, hG⟩ := hrel
                by_cases hlt : k < xc.length
                · obtain ⟨gx, offx, rfl, hrx⟩ := rows_at (HOb2.out.fut RR.stays hG.out).rep hlt
                  have hin : (0 : Int) ≤ k ∧ (k : Int) < xc.length := by omega
                  go_wp2_with fail
                  refine (at_any ((HT12.out.fut hG1.out).hc.fut hG.out) k hlt).mono ?_
                  rintro e w13 ⟨rfl, f13⟩
                  generalize xc[k] = y at hrx
                  have hy := hrx.1
                  go_wp2_with (first | (refine wpList_store_new rowTy (wanted_none rfl _) _ _ rfl rfl rfl rfl hy ?_))
                  have hr14 := RowAt.new w13 32 hy
                  have f14 := f13.trans (Fut.alloc w13 (.cells (Rw.cells y).toArray 32))
                  obtain ⟨w14, hw14⟩ : ∃ x, w13.alloc (.cells (Rw.cells y).toArray 32) = x := ⟨_, rfl⟩
                  rw [hw14] at hr14 f14 ⊢
                  clear hw14 f13
                  have hrx14 := hrx.fut f14
                  refine wp_graph 10 [.d, .d, .d, .d, .d, .d, .d, .d, .d, .d] (by kernel_rfl) (by kernel_rfl) (by kernel_rfl) ?_
                  simp only [List.take_succ_cons, List.take_zero, List.drop_succ_cons, List.drop_zero, Exs]
                  iterate 10 apply Exists.intro
                  apply Run.valG (wanted_none rfl _)
                  · intro w1 h1 hk
                    have hg := (Fut.drew _).trans h1
                    have hcw := fun b o => Below.cell (p := ⟨b, o, none⟩) h1
                    go_simp; rfl
                  simp only [Act.put, List.setIfInBounds_toArray, List.set_cons_succ, List.set_cons_zero, List.nil_append, List.cons_append]
                  apply Run.valG (wanted_none rfl _)
                  · intro w1 h1 hk
                    have hg := (Fut.drew _).trans h1
                    have hcw := fun b o => Below.cell (p := ⟨b, o, none⟩) h1
                    go_simp; rfl
                  simp only [Act.put, List.setIfInBounds_toArray, List.set_cons_succ, List.set_cons_zero, List.nil_append, List.cons_append]
                  apply Run.valG (wanted_none rfl _)
                  · intro w1 h1 hk
                    have hg := (Fut.drew _).trans h1
                    have hcw := fun b o => Below.cell (p := ⟨b, o, none⟩) h1
                    go_simp; rfl
                  simp only [Act.put, List.setIfInBounds_toArray, List.set_cons_succ, List.set_cons_zero, List.nil_append, List.cons_append]
                  apply Run.valG (by go_simp)
                  · intro w1 h1 hk
                    have hg := (Fut.drew _).trans h1
                    have hcw := fun b o => Below.cell (p := ⟨b, o, none⟩) h1
                    exact exec_load_R rowTy _ rfl rfl (hr14.fut hg)
                  simp only [Act.put, List.setIfInBounds_toArray, List.set_cons_succ, List.set_cons_zero, List.nil_append, List.cons_append]
                  apply Run.valG (by go_simp)
                  · intro w1 h1 hk
                    have hg := (Fut.drew _).trans h1
                    have hcw := fun b o => Below.cell (p := ⟨b, o, none⟩) h1
                    go_simp; rfl
                  simp only [Act.put, List.setIfInBounds_toArray, List.set_cons_succ, List.set_cons_zero, List.nil_append, List.cons_append]
                  apply Run.valG (by go_simp)
                  · intro w1 h1 hk
                    have hg := (Fut.drew _).trans h1
                    have hcw := fun b o => Below.cell (p := ⟨b, o, none⟩) h1
                    go_simp; rfl
                  simp only [Act.put, List.setIfInBounds_toArray, List.set_cons_succ, List.set_cons_zero, List.nil_append, List.cons_append]
                  apply Run.valG (by go_simp)
                  · intro w1 h1 hk
                    have hg := (Fut.drew _).trans h1
                    have hcw := fun b o => Below.cell (p := ⟨b, o, none⟩) h1
                    go_simp; rfl
                  simp only [Act.put, List.setIfInBounds_toArray, List.set_cons_succ, List.set_cons_zero, List.nil_append, List.cons_append]
                  apply Run.valG (by go_simp)
                  · intro w1 h1 hk
                    have hg := (Fut.drew _).trans h1
                    have hcw := fun b o => Below.cell (p := ⟨b, o, none⟩) h1
                    exact exec_load_R rowTy _ rfl rfl (hrx14.fut hg)
                  simp only [Act.put, List.setIfInBounds_toArray, List.set_cons_succ, List.set_cons_zero, List.nil_append, List.cons_append]
                  apply Run.valG (by go_simp)
                  · intro w1 h1 hk
                    have hg := (Fut.drew _).trans h1
                    have hcw := fun b o => Below.cell (p := ⟨b, o, none⟩) h1
                    exact exec_neq_R rowTy noGuard _ _ _ rfl rfl rfl hy hy
                  simp only [Act.put, List.setIfInBounds_toArray, List.set_cons_succ, List.set_cons_zero, List.nil_append, List.cons_append]
                  apply Run.valG (wanted_none rfl _)
                  · intro w1 h1 hk
                    have hg := (Fut.drew _).trans h1
                    have hcw := fun b o => Below.cell (p := ⟨b, o, none⟩) h1
                    go_simp; rfl
                  simp only [Act.put, List.setIfInBounds_toArray, List.set_cons_succ, List.set_cons_zero, List.nil_append, List.cons_append]
                  apply Run.done
                  intro w2 h2 hk
                  clear hk
                  go_wp2
                  go_roundw
                  case rel => exact ⟨k + 1, by omega, by go_num, Lib.hid (hG.out.trans (f14.trans ((Fut.drew _).trans h2)))⟩
                  case measure => simp [intOf] <;> omega
                · obtain rfl : k = xc.length := by omega
                  go_wp2
                  go_ret
                  exact ⟨rfl, F12.out.trans (hG1.out.trans hG.out)⟩
end Go.Proofs.Ytcekphjcmippoaa
