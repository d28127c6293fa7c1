/- REy, RAg -/
import Derived.Test.YtgcgmbegkfaifaaGreatDoorC16
/- The document's expressions (layer 4): expr. -/
namespace Go.Proofs.YtgcgmbegkfaifaaGreatDoor
open Go.RowKit
set_option linter.unusedSimpArgs false
set_option linter.unusedVariables false

theorem infoEx6' : (Tryz.prog.info? 66).map (·.size) = some 6 := by kernel_rfl
theorem empty_of {s : ByteArray} (h : s.toList = []) : s = ⟨#[]⟩ := by
  rw [ByteArray.toList_eq] at h
  exact ByteArray.ext (Array.toList_inj.1 (by simpa using h))
/-- What expr says of expressions so deep. -/
def RexOk (n : Nat) : Prop := ∀ (x : Ex) (cs : List Value) (m : Nat) (W : World), RE m W cs x → Calls Tryz.prog 138 #[.agg cs.toArray, .int .i64 n] W fun e W' => e = .returned (.bool (deepE n x)) ∧ Fut W W'
set_option maxHeartbeats 4000000 in
set_option maxRecDepth 100000 in
theorem rexpr_any : ∀ n, n < 1000 → RexOk n
  | 0, _ => fun x cs m w h => by
    obtain ⟨m', op, ⟨v, ⟨k, n, s⟩⟩, ks, A, c, rfl, rfl, rfl, _, _, _⟩ := ex_form h
    dsimp only
    generalize ks.length = l at *
    go_enter Tryz.func138, Tryz.ntmps138
    go_wp2
    go_ret
    exact ⟨rfl, Fut.alloc _ _⟩
  | d + 1, hd => fun x cs m w h => by
    have IH := Lib.hid (rexpr_any d (by omega))
    obtain ⟨m', op, ⟨v, ⟨k, n, s⟩⟩, ks, A, c, rfl, rfl, rfl, hc1, hc2, hks⟩ := ex_form h
    obtain ⟨kvx, hkx, _, hok, hkk⟩ := h
    clear hkx hkk
    dsimp only at *
    obtain ⟨b, hb⟩ : ∃ b, deepE (d + 1) (Ex.mk op ⟨v, ⟨k, n, s⟩⟩ ks) = b := ⟨_, rfl⟩
    rw [hb]
    replace hb : (if op = 0 then decide (ks.length = 0) && Tm.solid ⟨v, ⟨k, n, s⟩⟩ else Tm.zero ⟨v, ⟨k, n, s⟩⟩ && decide ((ks.length : Int) = arityE op) && ks.all (deepE d)) = b := hb
    have hbx := heap_alloc_new w (.cells #[.int .i8 op, .string v, .int .i8 k, .int .i64 n, .string s, .slice A ks.length c] 66)
    have f0 := Fut.alloc w (.cells #[.int .i8 op, .string v, .int .i8 k, .int .i64 n, .string s, .slice A ks.length c] 66)
    have HK := Lib.hid hks
    have HT := Lib.hid (fun W => rterm_any ⟨v, ⟨k, n, s⟩⟩ W hok)
    obtain ⟨D, hD⟩ : ∃ D : Int, ((d + 1 : Nat) : Int) = D := ⟨_, rfl⟩
    rw [hD]
    have hdI : ¬ (D = 0) := by omega
    have hdb : (D == 0) = false := by rw [beq_eq_false_iff_ne]; exact hdI
    have hD1 : D - 1 = (d : Int) := by omega
    replace hD := Lib.hid hD
    have hxl : ks.length ≤ 9223372036854775807 := by omega
    clear hks hok hc1 hc2
    by_cases h0 : op = 0
    · subst h0
      rw [if_pos rfl] at hb
      have x1 := cell_at hbx 1 _ rfl
      have x2 := cell_at hbx 2 _ rfl
      have x3 := cell_at hbx 3 _ rfl
      have x4 := cell_at hbx 4 _ rfl
      have x5 := cell_at hbx 5 _ rfl
      clear hbx HK IH
      by_cases hl : ks.length = 0
      · have hlb : ((ks.length : Int) == 0) = true := by rw [hl]; rfl
        by_cases hu : v.toList = [95]
        · obtain rfl : b = false := by rw [← hb]; simp [Tm.solid, hu]
          have hub : (v.toList == [95]) = true := by rw [hu]; rfl
          have hub2 : (v.toList != [95]) = false := by simp [bne, hub]
          rw [hl] at *
          go_enter Tryz.func138, Tryz.ntmps138
          go_wp2
          go_ret
          exact ⟨rfl, Fut.alloc _ _⟩
        · have hub : (v.toList == [95]) = false := by rw [beq_eq_false_iff_ne]; exact hu
          have hub2 : (v.toList != [95]) = true := by simp [bne, hub]
          have hbg : Tm.good ⟨v, ⟨k, n, s⟩⟩ = b := by rw [← hb]; simp [Tm.solid, hu, hl]
          rw [hbg] at HT
          rw [hl] at *
          clear hb hbg
          go_enter Tryz.func138, Tryz.ntmps138
          go_wp2_with fail
          refine (HT.out _).mono ?_
          rintro e w1 ⟨rfl, f1⟩
          have F1 := (Fut.alloc _ _).trans f1
          clear f1 x1 x2 x3 x4 x5
          go_wp2
          go_ret
          exact ⟨rfl, F1⟩
      · have hlb : ((ks.length : Int) == 0) = false := by rw [beq_eq_false_iff_ne]; omega
        have hlb2 : (ks.length == 0) = false := by rw [beq_eq_false_iff_ne]; exact hl
        obtain rfl : b = false := by rw [← hb]; simp [hl]
        clear hb
        generalize ks.length = l at *
        go_enter Tryz.func138, Tryz.ntmps138
        go_wp2
        go_ret
        exact ⟨rfl, Fut.alloc _ _⟩
    · have h0b : (op == 0) = false := by rw [beq_eq_false_iff_ne]; exact h0
      rw [if_neg h0] at hb
      have hs1 : (w.alloc (.cells #[.int .i8 op, .string v, .int .i8 k, .int .i64 n, .string s, .slice A ks.length c] 66)).heap.size = w.heap.size + 1 := by simp
      have f1 := Fut.alloc (w.alloc (.cells #[.int .i8 op, .string v, .int .i8 k, .int .i64 n, .string s, .slice A ks.length c] 66)) (.cells #[.string ⟨#[]⟩, .int .i8 0, .int .i64 0, .string ⟨#[]⟩] 63)
      have hbz := heap_alloc_new (w.alloc (.cells #[.int .i8 op, .string v, .int .i8 k, .int .i64 n, .string s, .slice A ks.length c] 66)) (.cells #[.string ⟨#[]⟩, .int .i8 0, .int .i64 0, .string ⟨#[]⟩] 63)
      rw [hs1] at hbz
      have hb1 := f1.block hbx
      have F01 := Lib.hid (f0.trans f1)
      have x0 := cell_at hb1 0 _ rfl
      have x1 := cell_at hb1 1 _ rfl
      have x2 := cell_at hb1 2 _ rfl
      have x3 := cell_at hb1 3 _ rfl
      have x4 := cell_at hb1 4 _ rfl
      have x5 := cell_at hb1 5 _ rfl
      have z0 := cell_at hbz 0 _ rfl
      have z1 := cell_at hbz 1 _ rfl
      have z2 := cell_at hbz 2 _ rfl
      have z3 := cell_at hbz 3 _ rfl
      clear hbx f0 f1 hb1 hbz hs1 HT
      by_cases hz : v.toList = [] ∧ k = 0 ∧ n = 0 ∧ s.toList = []
      · obtain ⟨c1, rfl, rfl, c4⟩ := hz
        obtain rfl := empty_of c1
        obtain rfl := empty_of c4
        have hb2 : (decide ((ks.length : Int) = arityE op) && ks.all (deepE d)) = b := by rw [← hb]; simp [Tm.zero, c1]
        have HKd := Lib.hid (fun W => rkids_any op W)
        have HX5 := Lib.hid x5
        have hdw2 : wrap64 (D - 1) = (d : Int) := by rw [hD1]; unfold wrap64; omega
        have hdw3 : wrap64 (d : Int) = (d : Int) := by unfold wrap64; omega
        obtain ⟨ar, har⟩ : ∃ ar, arityE op = ar := ⟨_, rfl⟩
        rw [har] at hb2 HKd
        clear hb har c1 c4
        by_cases hl : (ks.length : Int) = ar
        · subst hl
          have hall : ks.all (deepE d) = b := by rw [← hb2]; simp
          have hall' := Lib.hid hall
          clear hb2 hall
          go_enter Tryz.func138, Tryz.ntmps138
          go_wp2
          refine wp_graph 13 [.d, .d, .d, .d, .d, .d, .d, .d, .d, .d, .d, .d, .d] (by kernel_rfl) (by kernel_rfl) (by kernel_rfl) ?_
          simp only [List.take_succ_cons, List.take_zero, List.drop_succ_cons, List.drop_zero, Exs]
          iterate 13 apply Exists.intro
          apply Run.valG (wanted_none rfl _)
          · intro w1 h1 hk
            have r0 := h1.cell x0; have r1 := h1.cell x1; have r2 := h1.cell x2; have r3 := h1.cell x3; have r4 := h1.cell x4; have r5 := h1.cell x5; have p0 := h1.cell z0; have p1 := h1.cell z1; have p2 := h1.cell z2; have p3 := h1.cell z3
            have hcw := fun b o => Below.cell (p := ⟨b, o, none⟩) h1
            go_simp; rfl
          simp only [Act.put, List.setIfInBounds_toArray, List.set_cons_succ, List.set_cons_zero, List.nil_append, List.cons_append]
          apply Run.valG (wanted_none rfl _)
          · intro w1 h1 hk
            have r0 := h1.cell x0; have r1 := h1.cell x1; have r2 := h1.cell x2; have r3 := h1.cell x3; have r4 := h1.cell x4; have r5 := h1.cell x5; have p0 := h1.cell z0; have p1 := h1.cell z1; have p2 := h1.cell z2; have p3 := h1.cell z3
            have hcw := fun b o => Below.cell (p := ⟨b, o, none⟩) h1
            go_simp; rfl
          simp only [Act.put, List.setIfInBounds_toArray, List.set_cons_succ, List.set_cons_zero, List.nil_append, List.cons_append]
          apply Run.valG (wanted_none rfl _)
          · intro w1 h1 hk
            have r0 := h1.cell x0; have r1 := h1.cell x1; have r2 := h1.cell x2; have r3 := h1.cell x3; have r4 := h1.cell x4; have r5 := h1.cell x5; have p0 := h1.cell z0; have p1 := h1.cell z1; have p2 := h1.cell z2; have p3 := h1.cell z3
            have hcw := fun b o => Below.cell (p := ⟨b, o, none⟩) h1
            go_simp; rfl
          simp only [Act.put, List.setIfInBounds_toArray, List.set_cons_succ, List.set_cons_zero, List.nil_append, List.cons_append]
          apply Run.valG (wanted_none rfl _)
          · intro w1 h1 hk
            have r0 := h1.cell x0; have r1 := h1.cell x1; have r2 := h1.cell x2; have r3 := h1.cell x3; have r4 := h1.cell x4; have r5 := h1.cell x5; have p0 := h1.cell z0; have p1 := h1.cell z1; have p2 := h1.cell z2; have p3 := h1.cell z3
            have hcw := fun b o => Below.cell (p := ⟨b, o, none⟩) h1
            go_simp; rfl
          simp only [Act.put, List.setIfInBounds_toArray, List.set_cons_succ, List.set_cons_zero, List.nil_append, List.cons_append]
          apply Run.valG (wanted_none rfl _)
          · intro w1 h1 hk
            have r0 := h1.cell x0; have r1 := h1.cell x1; have r2 := h1.cell x2; have r3 := h1.cell x3; have r4 := h1.cell x4; have r5 := h1.cell x5; have p0 := h1.cell z0; have p1 := h1.cell z1; have p2 := h1.cell z2; have p3 := h1.cell z3
            have hcw := fun b o => Below.cell (p := ⟨b, o, none⟩) h1
            go_simp; rfl
          simp only [Act.put, List.setIfInBounds_toArray, List.set_cons_succ, List.set_cons_zero, List.nil_append, List.cons_append]
          apply Run.valG (by go_simp)
          · intro w1 h1 hk
            have r0 := h1.cell x0; have r1 := h1.cell x1; have r2 := h1.cell x2; have r3 := h1.cell x3; have r4 := h1.cell x4; have r5 := h1.cell x5; have p0 := h1.cell z0; have p1 := h1.cell z1; have p2 := h1.cell z2; have p3 := h1.cell z3
            have hcw := fun b o => Below.cell (p := ⟨b, o, none⟩) h1
            go_simp; rfl
          simp only [Act.put, List.setIfInBounds_toArray, List.set_cons_succ, List.set_cons_zero, List.nil_append, List.cons_append]
          apply Run.valG (by go_simp)
          · intro w1 h1 hk
            have r0 := h1.cell x0; have r1 := h1.cell x1; have r2 := h1.cell x2; have r3 := h1.cell x3; have r4 := h1.cell x4; have r5 := h1.cell x5; have p0 := h1.cell z0; have p1 := h1.cell z1; have p2 := h1.cell z2; have p3 := h1.cell z3
            have hcw := fun b o => Below.cell (p := ⟨b, o, none⟩) h1
            go_simp; rfl
          simp only [Act.put, List.setIfInBounds_toArray, List.set_cons_succ, List.set_cons_zero, List.nil_append, List.cons_append]
          apply Run.valG (by go_simp)
          · intro w1 h1 hk
            have r0 := h1.cell x0; have r1 := h1.cell x1; have r2 := h1.cell x2; have r3 := h1.cell x3; have r4 := h1.cell x4; have r5 := h1.cell x5; have p0 := h1.cell z0; have p1 := h1.cell z1; have p2 := h1.cell z2; have p3 := h1.cell z3
            have hcw := fun b o => Below.cell (p := ⟨b, o, none⟩) h1
            go_simp; rfl
          simp only [Act.put, List.setIfInBounds_toArray, List.set_cons_succ, List.set_cons_zero, List.nil_append, List.cons_append]
          apply Run.valG (by go_simp)
          · intro w1 h1 hk
            have r0 := h1.cell x0; have r1 := h1.cell x1; have r2 := h1.cell x2; have r3 := h1.cell x3; have r4 := h1.cell x4; have r5 := h1.cell x5; have p0 := h1.cell z0; have p1 := h1.cell z1; have p2 := h1.cell z2; have p3 := h1.cell z3
            have hcw := fun b o => Below.cell (p := ⟨b, o, none⟩) h1
            go_simp; rfl
          simp only [Act.put, List.setIfInBounds_toArray, List.set_cons_succ, List.set_cons_zero, List.nil_append, List.cons_append]
          apply Run.valG (by go_simp)
          · intro w1 h1 hk
            have r0 := h1.cell x0; have r1 := h1.cell x1; have r2 := h1.cell x2; have r3 := h1.cell x3; have r4 := h1.cell x4; have r5 := h1.cell x5; have p0 := h1.cell z0; have p1 := h1.cell z1; have p2 := h1.cell z2; have p3 := h1.cell z3
            have hcw := fun b o => Below.cell (p := ⟨b, o, none⟩) h1
            go_simp; rfl
          simp only [Act.put, List.setIfInBounds_toArray, List.set_cons_succ, List.set_cons_zero, List.nil_append, List.cons_append]
          apply Run.call (by go_simp) (fun _ _ => by go_simp; exact ⟨rfl, rfl⟩)
          · intro w1 h1 hk
            have r0 := h1.cell x0; have r1 := h1.cell x1; have r2 := h1.cell x2; have r3 := h1.cell x3; have r4 := h1.cell x4; have r5 := h1.cell x5; have p0 := h1.cell z0; have p1 := h1.cell z1; have p2 := h1.cell z2; have p3 := h1.cell z3
            exact HKd.out _
          simp only [Act.put, List.setIfInBounds_toArray, List.set_cons_succ, List.set_cons_zero, List.nil_append, List.cons_append]
          apply Run.valG (by go_simp)
          · intro w1 h1 hk
            have r0 := h1.cell x0; have r1 := h1.cell x1; have r2 := h1.cell x2; have r3 := h1.cell x3; have r4 := h1.cell x4; have r5 := h1.cell x5; have p0 := h1.cell z0; have p1 := h1.cell z1; have p2 := h1.cell z2; have p3 := h1.cell z3
            have hcw := fun b o => Below.cell (p := ⟨b, o, none⟩) h1
            go_simp; rfl
          simp only [Act.put, List.setIfInBounds_toArray, List.set_cons_succ, List.set_cons_zero, List.nil_append, List.cons_append]
          apply Run.valG (wanted_none rfl _)
          · intro w1 h1 hk
            have r0 := h1.cell x0; have r1 := h1.cell x1; have r2 := h1.cell x2; have r3 := h1.cell x3; have r4 := h1.cell x4; have r5 := h1.cell x5; have p0 := h1.cell z0; have p1 := h1.cell z1; have p2 := h1.cell z2; have p3 := h1.cell z3
            have hcw := fun b o => Below.cell (p := ⟨b, o, none⟩) h1
            go_simp; rfl
          simp only [Act.put, List.setIfInBounds_toArray, List.set_cons_succ, List.set_cons_zero, List.nil_append, List.cons_append]
          apply Run.done
          intro w2 h2 hk
          clear hk
          have F2 := Lib.hid (F01.out.trans ((Fut.drew _).trans h2))
          have y5 := Lib.hid (h2.cell x5)
          clear h2 x0 x1 x2 x3 x4 x5 z0 z1 z2 z3 HX5 F01
          go_wp2
          go_loopw [6] (fun i wr => ∃ q : Nat, q ≤ ks.length ∧ i = .int .i64 q ∧ Hid (∀ x ∈ ks.take q, deepE d x = true) ∧ Hid (Fut w2 wr)) (fun i _ => ks.length - (intOf i).toNat)
          case atStart => exact ⟨0, Nat.zero_le _, rfl, Lib.hid (fun x hx => by simp at hx), Lib.hid (Fut.refl _)⟩
          case round =>
            obtain ⟨q, hq, rfl, hI, hF⟩ := hrel
            have g5 := hF.out.cell y5.out
            by_cases hlt : q < ks.length
            · have hltI : (q : Int) < ks.length := by omega
              have e0 : (0 : Int) ≤ q ∧ (q : Int) < ks.length := by omega
              obtain ⟨b', off, cs, rfl, hr, hl6, hcs⟩ := sl_rowR (HK.out.fut (RE.stays m') (F2.out.trans hF.out)) hlt
              have htk := Lib.hid (List.take_succ_eq_append_getElem hlt)
              have hmem := Lib.hid (List.getElem_mem hlt)
              generalize ks[q] = z at *
              have HC := Lib.hid (IH.out z cs m' wr hr)
              have hcs9 := Lib.hid hcs
              have hi6 : (Tryz.prog.info? 66).map (·.size) = some cs.length := by rw [hl6]; exact infoEx6'
              clear hcs hr
              go_wp2_with (first | (show wpList _ _ _ (Oper.mk _ (Op.load 66 _) _ _ _ _ :: _) _ _; refine Go.wpList_load_mid rfl _ _ rfl b' (off + q * 6) rfl cs _ hcs9.out Tryz.underlying66 rfl hi6 ?_))
              refine HC.out.mono ?_
              rintro e w3 ⟨rfl, f3⟩
              have F3 := Lib.hid (hF.out.trans f3)
              clear f3 HC
              cases hg : deepE d z
              · have hbf : b = false := by
                  rw [← hall'.out, List.all_eq_false]
                  exact ⟨z, hmem.out, by rw [hg]; decide⟩
                subst hbf
                go_wp2
                go_ret
                exact ⟨rfl, F2.out.trans F3.out⟩
              · have HI := Lib.hid (show ∀ x ∈ ks.take (q + 1), deepE d x = true from fun x hx => by
                  rw [htk.out, List.mem_append] at hx
                  rcases hx with hx | hx
                  · exact hI.out x hx
                  · rw [List.mem_singleton] at hx; rw [hx]; exact hg)
                go_wp2
                go_roundw
                case rel => exact ⟨q + 1, by omega, by go_num, HI, F3⟩
                case measure => simp [intOf] <;> omega
            · obtain rfl : q = ks.length := by omega
              have hbt : b = true := by
                rw [← hall'.out, List.all_eq_true]
                intro x hx
                exact hI.out x (by rw [List.take_length]; exact hx)
              subst hbt
              go_wp2
              go_ret
              exact ⟨rfl, F2.out.trans hF.out⟩
        · obtain rfl : b = false := by rw [← hb2, decide_eq_false hl]; rfl
          have hlb : ((ks.length : Int) == ar) = false := by rw [beq_eq_false_iff_ne]; exact hl
          have hlb2 : ((ks.length : Int) != ar) = true := by simp [bne, hlb]
          clear hb2 HK IH
          generalize ks.length = l at *
          go_enter Tryz.func138, Tryz.ntmps138
          go_wp2
          refine wp_graph 13 [.d, .d, .d, .d, .d, .d, .d, .d, .d, .d, .d, .d, .d] (by kernel_rfl) (by kernel_rfl) (by kernel_rfl) ?_
          simp only [List.take_succ_cons, List.take_zero, List.drop_succ_cons, List.drop_zero, Exs]
          iterate 13 apply Exists.intro
          apply Run.valG (wanted_none rfl _)
          · intro w1 h1 hk
            have r0 := h1.cell x0; have r1 := h1.cell x1; have r2 := h1.cell x2; have r3 := h1.cell x3; have r4 := h1.cell x4; have r5 := h1.cell x5; have p0 := h1.cell z0; have p1 := h1.cell z1; have p2 := h1.cell z2; have p3 := h1.cell z3
            have hcw := fun b o => Below.cell (p := ⟨b, o, none⟩) h1
            go_simp; rfl
          simp only [Act.put, List.setIfInBounds_toArray, List.set_cons_succ, List.set_cons_zero, List.nil_append, List.cons_append]
          apply Run.valG (wanted_none rfl _)
          · intro w1 h1 hk
            have r0 := h1.cell x0; have r1 := h1.cell x1; have r2 := h1.cell x2; have r3 := h1.cell x3; have r4 := h1.cell x4; have r5 := h1.cell x5; have p0 := h1.cell z0; have p1 := h1.cell z1; have p2 := h1.cell z2; have p3 := h1.cell z3
            have hcw := fun b o => Below.cell (p := ⟨b, o, none⟩) h1
            go_simp; rfl
          simp only [Act.put, List.setIfInBounds_toArray, List.set_cons_succ, List.set_cons_zero, List.nil_append, List.cons_append]
          apply Run.valG (wanted_none rfl _)
          · intro w1 h1 hk
            have r0 := h1.cell x0; have r1 := h1.cell x1; have r2 := h1.cell x2; have r3 := h1.cell x3; have r4 := h1.cell x4; have r5 := h1.cell x5; have p0 := h1.cell z0; have p1 := h1.cell z1; have p2 := h1.cell z2; have p3 := h1.cell z3
            have hcw := fun b o => Below.cell (p := ⟨b, o, none⟩) h1
            go_simp; rfl
          simp only [Act.put, List.setIfInBounds_toArray, List.set_cons_succ, List.set_cons_zero, List.nil_append, List.cons_append]
          apply Run.valG (wanted_none rfl _)
          · intro w1 h1 hk
            have r0 := h1.cell x0; have r1 := h1.cell x1; have r2 := h1.cell x2; have r3 := h1.cell x3; have r4 := h1.cell x4; have r5 := h1.cell x5; have p0 := h1.cell z0; have p1 := h1.cell z1; have p2 := h1.cell z2; have p3 := h1.cell z3
            have hcw := fun b o => Below.cell (p := ⟨b, o, none⟩) h1
            go_simp; rfl
          simp only [Act.put, List.setIfInBounds_toArray, List.set_cons_succ, List.set_cons_zero, List.nil_append, List.cons_append]
          apply Run.valG (wanted_none rfl _)
          · intro w1 h1 hk
            have r0 := h1.cell x0; have r1 := h1.cell x1; have r2 := h1.cell x2; have r3 := h1.cell x3; have r4 := h1.cell x4; have r5 := h1.cell x5; have p0 := h1.cell z0; have p1 := h1.cell z1; have p2 := h1.cell z2; have p3 := h1.cell z3
            have hcw := fun b o => Below.cell (p := ⟨b, o, none⟩) h1
            go_simp; rfl
          simp only [Act.put, List.setIfInBounds_toArray, List.set_cons_succ, List.set_cons_zero, List.nil_append, List.cons_append]
          apply Run.valG (by go_simp)
          · intro w1 h1 hk
            have r0 := h1.cell x0; have r1 := h1.cell x1; have r2 := h1.cell x2; have r3 := h1.cell x3; have r4 := h1.cell x4; have r5 := h1.cell x5; have p0 := h1.cell z0; have p1 := h1.cell z1; have p2 := h1.cell z2; have p3 := h1.cell z3
            have hcw := fun b o => Below.cell (p := ⟨b, o, none⟩) h1
            go_simp; rfl
          simp only [Act.put, List.setIfInBounds_toArray, List.set_cons_succ, List.set_cons_zero, List.nil_append, List.cons_append]
          apply Run.valG (by go_simp)
          · intro w1 h1 hk
            have r0 := h1.cell x0; have r1 := h1.cell x1; have r2 := h1.cell x2; have r3 := h1.cell x3; have r4 := h1.cell x4; have r5 := h1.cell x5; have p0 := h1.cell z0; have p1 := h1.cell z1; have p2 := h1.cell z2; have p3 := h1.cell z3
            have hcw := fun b o => Below.cell (p := ⟨b, o, none⟩) h1
            go_simp; rfl
          simp only [Act.put, List.setIfInBounds_toArray, List.set_cons_succ, List.set_cons_zero, List.nil_append, List.cons_append]
          apply Run.valG (by go_simp)
          · intro w1 h1 hk
            have r0 := h1.cell x0; have r1 := h1.cell x1; have r2 := h1.cell x2; have r3 := h1.cell x3; have r4 := h1.cell x4; have r5 := h1.cell x5; have p0 := h1.cell z0; have p1 := h1.cell z1; have p2 := h1.cell z2; have p3 := h1.cell z3
            have hcw := fun b o => Below.cell (p := ⟨b, o, none⟩) h1
            go_simp; rfl
          simp only [Act.put, List.setIfInBounds_toArray, List.set_cons_succ, List.set_cons_zero, List.nil_append, List.cons_append]
          apply Run.valG (by go_simp)
          · intro w1 h1 hk
            have r0 := h1.cell x0; have r1 := h1.cell x1; have r2 := h1.cell x2; have r3 := h1.cell x3; have r4 := h1.cell x4; have r5 := h1.cell x5; have p0 := h1.cell z0; have p1 := h1.cell z1; have p2 := h1.cell z2; have p3 := h1.cell z3
            have hcw := fun b o => Below.cell (p := ⟨b, o, none⟩) h1
            go_simp; rfl
          simp only [Act.put, List.setIfInBounds_toArray, List.set_cons_succ, List.set_cons_zero, List.nil_append, List.cons_append]
          apply Run.valG (by go_simp)
          · intro w1 h1 hk
            have r0 := h1.cell x0; have r1 := h1.cell x1; have r2 := h1.cell x2; have r3 := h1.cell x3; have r4 := h1.cell x4; have r5 := h1.cell x5; have p0 := h1.cell z0; have p1 := h1.cell z1; have p2 := h1.cell z2; have p3 := h1.cell z3
            have hcw := fun b o => Below.cell (p := ⟨b, o, none⟩) h1
            go_simp; rfl
          simp only [Act.put, List.setIfInBounds_toArray, List.set_cons_succ, List.set_cons_zero, List.nil_append, List.cons_append]
          apply Run.call (by go_simp) (fun _ _ => by go_simp; exact ⟨rfl, rfl⟩)
          · intro w1 h1 hk
            have r0 := h1.cell x0; have r1 := h1.cell x1; have r2 := h1.cell x2; have r3 := h1.cell x3; have r4 := h1.cell x4; have r5 := h1.cell x5; have p0 := h1.cell z0; have p1 := h1.cell z1; have p2 := h1.cell z2; have p3 := h1.cell z3
            exact HKd.out _
          simp only [Act.put, List.setIfInBounds_toArray, List.set_cons_succ, List.set_cons_zero, List.nil_append, List.cons_append]
          apply Run.valG (by go_simp)
          · intro w1 h1 hk
            have r0 := h1.cell x0; have r1 := h1.cell x1; have r2 := h1.cell x2; have r3 := h1.cell x3; have r4 := h1.cell x4; have r5 := h1.cell x5; have p0 := h1.cell z0; have p1 := h1.cell z1; have p2 := h1.cell z2; have p3 := h1.cell z3
            have hcw := fun b o => Below.cell (p := ⟨b, o, none⟩) h1
            go_simp; rfl
          simp only [Act.put, List.setIfInBounds_toArray, List.set_cons_succ, List.set_cons_zero, List.nil_append, List.cons_append]
          apply Run.valG (wanted_none rfl _)
          · intro w1 h1 hk
            have r0 := h1.cell x0; have r1 := h1.cell x1; have r2 := h1.cell x2; have r3 := h1.cell x3; have r4 := h1.cell x4; have r5 := h1.cell x5; have p0 := h1.cell z0; have p1 := h1.cell z1; have p2 := h1.cell z2; have p3 := h1.cell z3
            have hcw := fun b o => Below.cell (p := ⟨b, o, none⟩) h1
            go_simp; rfl
          simp only [Act.put, List.setIfInBounds_toArray, List.set_cons_succ, List.set_cons_zero, List.nil_append, List.cons_append]
          apply Run.done
          intro w2 h2 hk
          clear hk
          have F9 := F01.out.trans ((Fut.drew _).trans h2)
          clear h2
          go_wp2
          go_ret
          exact ⟨rfl, F9⟩
      · obtain rfl : b = false := by
          rw [← hb, Bool.eq_false_iff]
          intro h
          simp [Tm.zero] at h
          exact hz ⟨h.1.1.1.1.1, h.1.1.1.1.2, h.1.1.1.2, h.1.1.2⟩
        clear hb HK IH
        generalize ks.length = l at *
        by_cases c1 : v.toList = []
        · by_cases c2 : k = 0
          · by_cases c3 : n = 0
            · have c4 : ¬ s.toList = [] := fun c4 => hz ⟨c1, c2, c3, c4⟩
              obtain rfl := empty_of c1
              subst c2; subst c3
              have q1 : (s.toList == []) = false := by rw [beq_eq_false_iff_ne]; exact c4
              clear hz
              go_enter Tryz.func138, Tryz.ntmps138
              go_wp2
              refine wp_graph 13 [.d, .d, .d, .d, .d, .d, .d, .d, .d, .d, .d, .d, .d] (by kernel_rfl) (by kernel_rfl) (by kernel_rfl) ?_
              simp only [List.take_succ_cons, List.take_zero, List.drop_succ_cons, List.drop_zero, Exs]
              iterate 13 apply Exists.intro
              apply Run.valG (wanted_none rfl _)
              · intro w1 h1 hk
                have r0 := h1.cell x0; have r1 := h1.cell x1; have r2 := h1.cell x2; have r3 := h1.cell x3; have r4 := h1.cell x4; have p0 := h1.cell z0; have p1 := h1.cell z1; have p2 := h1.cell z2; have p3 := h1.cell z3
                have hcw := fun b o => Below.cell (p := ⟨b, o, none⟩) h1
                go_simp; rfl
              simp only [Act.put, List.setIfInBounds_toArray, List.set_cons_succ, List.set_cons_zero, List.nil_append, List.cons_append]
              apply Run.valG (wanted_none rfl _)
              · intro w1 h1 hk
                have r0 := h1.cell x0; have r1 := h1.cell x1; have r2 := h1.cell x2; have r3 := h1.cell x3; have r4 := h1.cell x4; have p0 := h1.cell z0; have p1 := h1.cell z1; have p2 := h1.cell z2; have p3 := h1.cell z3
                have hcw := fun b o => Below.cell (p := ⟨b, o, none⟩) h1
                go_simp; rfl
              simp only [Act.put, List.setIfInBounds_toArray, List.set_cons_succ, List.set_cons_zero, List.nil_append, List.cons_append]
              apply Run.valG (wanted_none rfl _)
              · intro w1 h1 hk
                have r0 := h1.cell x0; have r1 := h1.cell x1; have r2 := h1.cell x2; have r3 := h1.cell x3; have r4 := h1.cell x4; have p0 := h1.cell z0; have p1 := h1.cell z1; have p2 := h1.cell z2; have p3 := h1.cell z3
                have hcw := fun b o => Below.cell (p := ⟨b, o, none⟩) h1
                go_simp; rfl
              simp only [Act.put, List.setIfInBounds_toArray, List.set_cons_succ, List.set_cons_zero, List.nil_append, List.cons_append]
              apply Run.valG (wanted_none rfl _)
              · intro w1 h1 hk
                have r0 := h1.cell x0; have r1 := h1.cell x1; have r2 := h1.cell x2; have r3 := h1.cell x3; have r4 := h1.cell x4; have p0 := h1.cell z0; have p1 := h1.cell z1; have p2 := h1.cell z2; have p3 := h1.cell z3
                have hcw := fun b o => Below.cell (p := ⟨b, o, none⟩) h1
                go_simp; rfl
              simp only [Act.put, List.setIfInBounds_toArray, List.set_cons_succ, List.set_cons_zero, List.nil_append, List.cons_append]
              apply Run.valG (wanted_none rfl _)
              · intro w1 h1 hk
                have r0 := h1.cell x0; have r1 := h1.cell x1; have r2 := h1.cell x2; have r3 := h1.cell x3; have r4 := h1.cell x4; have p0 := h1.cell z0; have p1 := h1.cell z1; have p2 := h1.cell z2; have p3 := h1.cell z3
                have hcw := fun b o => Below.cell (p := ⟨b, o, none⟩) h1
                go_simp; rfl
              simp only [Act.put, List.setIfInBounds_toArray, List.set_cons_succ, List.set_cons_zero, List.nil_append, List.cons_append]
              apply Run.skip (by first | (go_simp; done) | (go_simp; exact fun h => nomatch h))
              simp only [Act.put, List.setIfInBounds_toArray, List.set_cons_succ, List.set_cons_zero, List.nil_append, List.cons_append]
              apply Run.skip (by first | (go_simp; done) | (go_simp; exact fun h => nomatch h))
              simp only [Act.put, List.setIfInBounds_toArray, List.set_cons_succ, List.set_cons_zero, List.nil_append, List.cons_append]
              apply Run.skip (by first | (go_simp; done) | (go_simp; exact fun h => nomatch h))
              simp only [Act.put, List.setIfInBounds_toArray, List.set_cons_succ, List.set_cons_zero, List.nil_append, List.cons_append]
              apply Run.skip (by first | (go_simp; done) | (go_simp; exact fun h => nomatch h))
              simp only [Act.put, List.setIfInBounds_toArray, List.set_cons_succ, List.set_cons_zero, List.nil_append, List.cons_append]
              apply Run.skip (by first | (go_simp; done) | (go_simp; exact fun h => nomatch h))
              simp only [Act.put, List.setIfInBounds_toArray, List.set_cons_succ, List.set_cons_zero, List.nil_append, List.cons_append]
              apply Run.skip (by first | (go_simp; done) | (go_simp; exact fun h => nomatch h))
              simp only [Act.put, List.setIfInBounds_toArray, List.set_cons_succ, List.set_cons_zero, List.nil_append, List.cons_append]
              apply Run.skip (by first | (go_simp; done) | (go_simp; exact fun h => nomatch h))
              simp only [Act.put, List.setIfInBounds_toArray, List.set_cons_succ, List.set_cons_zero, List.nil_append, List.cons_append]
              apply Run.valG (wanted_none rfl _)
              · intro w1 h1 hk
                have r0 := h1.cell x0; have r1 := h1.cell x1; have r2 := h1.cell x2; have r3 := h1.cell x3; have r4 := h1.cell x4; have p0 := h1.cell z0; have p1 := h1.cell z1; have p2 := h1.cell z2; have p3 := h1.cell z3
                have hcw := fun b o => Below.cell (p := ⟨b, o, none⟩) h1
                go_simp; rfl
              simp only [Act.put, List.setIfInBounds_toArray, List.set_cons_succ, List.set_cons_zero, List.nil_append, List.cons_append]
              apply Run.done
              intro w2 h2 hk
              clear hk
              have F9 := F01.out.trans ((Fut.drew _).trans h2)
              clear h2
              go_wp2
              go_ret
              exact ⟨rfl, F9⟩
            · obtain rfl := empty_of c1
              subst c2
              have q1 : (n == 0) = false := by rw [beq_eq_false_iff_ne]; exact c3
              clear hz
              go_enter Tryz.func138, Tryz.ntmps138
              go_wp2
              refine wp_graph 13 [.d, .d, .d, .d, .d, .d, .d, .d, .d, .d, .d, .d, .d] (by kernel_rfl) (by kernel_rfl) (by kernel_rfl) ?_
              simp only [List.take_succ_cons, List.take_zero, List.drop_succ_cons, List.drop_zero, Exs]
              iterate 13 apply Exists.intro
              apply Run.valG (wanted_none rfl _)
              · intro w1 h1 hk
                have r0 := h1.cell x0; have r1 := h1.cell x1; have r2 := h1.cell x2; have r3 := h1.cell x3; have r4 := h1.cell x4; have p0 := h1.cell z0; have p1 := h1.cell z1; have p2 := h1.cell z2; have p3 := h1.cell z3
                have hcw := fun b o => Below.cell (p := ⟨b, o, none⟩) h1
                go_simp; rfl
              simp only [Act.put, List.setIfInBounds_toArray, List.set_cons_succ, List.set_cons_zero, List.nil_append, List.cons_append]
              apply Run.valG (wanted_none rfl _)
              · intro w1 h1 hk
                have r0 := h1.cell x0; have r1 := h1.cell x1; have r2 := h1.cell x2; have r3 := h1.cell x3; have r4 := h1.cell x4; have p0 := h1.cell z0; have p1 := h1.cell z1; have p2 := h1.cell z2; have p3 := h1.cell z3
                have hcw := fun b o => Below.cell (p := ⟨b, o, none⟩) h1
                go_simp; rfl
              simp only [Act.put, List.setIfInBounds_toArray, List.set_cons_succ, List.set_cons_zero, List.nil_append, List.cons_append]
              apply Run.valG (wanted_none rfl _)
              · intro w1 h1 hk
                have r0 := h1.cell x0; have r1 := h1.cell x1; have r2 := h1.cell x2; have r3 := h1.cell x3; have r4 := h1.cell x4; have p0 := h1.cell z0; have p1 := h1.cell z1; have p2 := h1.cell z2; have p3 := h1.cell z3
                have hcw := fun b o => Below.cell (p := ⟨b, o, none⟩) h1
                go_simp; rfl
              simp only [Act.put, List.setIfInBounds_toArray, List.set_cons_succ, List.set_cons_zero, List.nil_append, List.cons_append]
              apply Run.valG (wanted_none rfl _)
              · intro w1 h1 hk
                have r0 := h1.cell x0; have r1 := h1.cell x1; have r2 := h1.cell x2; have r3 := h1.cell x3; have r4 := h1.cell x4; have p0 := h1.cell z0; have p1 := h1.cell z1; have p2 := h1.cell z2; have p3 := h1.cell z3
                have hcw := fun b o => Below.cell (p := ⟨b, o, none⟩) h1
                go_simp; rfl
              simp only [Act.put, List.setIfInBounds_toArray, List.set_cons_succ, List.set_cons_zero, List.nil_append, List.cons_append]
              apply Run.valG (wanted_none rfl _)
              · intro w1 h1 hk
                have r0 := h1.cell x0; have r1 := h1.cell x1; have r2 := h1.cell x2; have r3 := h1.cell x3; have r4 := h1.cell x4; have p0 := h1.cell z0; have p1 := h1.cell z1; have p2 := h1.cell z2; have p3 := h1.cell z3
                have hcw := fun b o => Below.cell (p := ⟨b, o, none⟩) h1
                go_simp; rfl
              simp only [Act.put, List.setIfInBounds_toArray, List.set_cons_succ, List.set_cons_zero, List.nil_append, List.cons_append]
              apply Run.skip (by first | (go_simp; done) | (go_simp; exact fun h => nomatch h))
              simp only [Act.put, List.setIfInBounds_toArray, List.set_cons_succ, List.set_cons_zero, List.nil_append, List.cons_append]
              apply Run.skip (by first | (go_simp; done) | (go_simp; exact fun h => nomatch h))
              simp only [Act.put, List.setIfInBounds_toArray, List.set_cons_succ, List.set_cons_zero, List.nil_append, List.cons_append]
              apply Run.skip (by first | (go_simp; done) | (go_simp; exact fun h => nomatch h))
              simp only [Act.put, List.setIfInBounds_toArray, List.set_cons_succ, List.set_cons_zero, List.nil_append, List.cons_append]
              apply Run.skip (by first | (go_simp; done) | (go_simp; exact fun h => nomatch h))
              simp only [Act.put, List.setIfInBounds_toArray, List.set_cons_succ, List.set_cons_zero, List.nil_append, List.cons_append]
              apply Run.skip (by first | (go_simp; done) | (go_simp; exact fun h => nomatch h))
              simp only [Act.put, List.setIfInBounds_toArray, List.set_cons_succ, List.set_cons_zero, List.nil_append, List.cons_append]
              apply Run.skip (by first | (go_simp; done) | (go_simp; exact fun h => nomatch h))
              simp only [Act.put, List.setIfInBounds_toArray, List.set_cons_succ, List.set_cons_zero, List.nil_append, List.cons_append]
              apply Run.skip (by first | (go_simp; done) | (go_simp; exact fun h => nomatch h))
              simp only [Act.put, List.setIfInBounds_toArray, List.set_cons_succ, List.set_cons_zero, List.nil_append, List.cons_append]
              apply Run.valG (wanted_none rfl _)
              · intro w1 h1 hk
                have r0 := h1.cell x0; have r1 := h1.cell x1; have r2 := h1.cell x2; have r3 := h1.cell x3; have r4 := h1.cell x4; have p0 := h1.cell z0; have p1 := h1.cell z1; have p2 := h1.cell z2; have p3 := h1.cell z3
                have hcw := fun b o => Below.cell (p := ⟨b, o, none⟩) h1
                go_simp; rfl
              simp only [Act.put, List.setIfInBounds_toArray, List.set_cons_succ, List.set_cons_zero, List.nil_append, List.cons_append]
              apply Run.done
              intro w2 h2 hk
              clear hk
              have F9 := F01.out.trans ((Fut.drew _).trans h2)
              clear h2
              go_wp2
              go_ret
              exact ⟨rfl, F9⟩
          · obtain rfl := empty_of c1
            have q1 : (k == 0) = false := by rw [beq_eq_false_iff_ne]; exact c2
            clear hz
            go_enter Tryz.func138, Tryz.ntmps138
            go_wp2
            refine wp_graph 13 [.d, .d, .d, .d, .d, .d, .d, .d, .d, .d, .d, .d, .d] (by kernel_rfl) (by kernel_rfl) (by kernel_rfl) ?_
            simp only [List.take_succ_cons, List.take_zero, List.drop_succ_cons, List.drop_zero, Exs]
            iterate 13 apply Exists.intro
            apply Run.valG (wanted_none rfl _)
            · intro w1 h1 hk
              have r0 := h1.cell x0; have r1 := h1.cell x1; have r2 := h1.cell x2; have r3 := h1.cell x3; have r4 := h1.cell x4; have p0 := h1.cell z0; have p1 := h1.cell z1; have p2 := h1.cell z2; have p3 := h1.cell z3
              have hcw := fun b o => Below.cell (p := ⟨b, o, none⟩) h1
              go_simp; rfl
            simp only [Act.put, List.setIfInBounds_toArray, List.set_cons_succ, List.set_cons_zero, List.nil_append, List.cons_append]
            apply Run.valG (wanted_none rfl _)
            · intro w1 h1 hk
              have r0 := h1.cell x0; have r1 := h1.cell x1; have r2 := h1.cell x2; have r3 := h1.cell x3; have r4 := h1.cell x4; have p0 := h1.cell z0; have p1 := h1.cell z1; have p2 := h1.cell z2; have p3 := h1.cell z3
              have hcw := fun b o => Below.cell (p := ⟨b, o, none⟩) h1
              go_simp; rfl
            simp only [Act.put, List.setIfInBounds_toArray, List.set_cons_succ, List.set_cons_zero, List.nil_append, List.cons_append]
            apply Run.valG (wanted_none rfl _)
            · intro w1 h1 hk
              have r0 := h1.cell x0; have r1 := h1.cell x1; have r2 := h1.cell x2; have r3 := h1.cell x3; have r4 := h1.cell x4; have p0 := h1.cell z0; have p1 := h1.cell z1; have p2 := h1.cell z2; have p3 := h1.cell z3
              have hcw := fun b o => Below.cell (p := ⟨b, o, none⟩) h1
              go_simp; rfl
            simp only [Act.put, List.setIfInBounds_toArray, List.set_cons_succ, List.set_cons_zero, List.nil_append, List.cons_append]
            apply Run.valG (wanted_none rfl _)
            · intro w1 h1 hk
              have r0 := h1.cell x0; have r1 := h1.cell x1; have r2 := h1.cell x2; have r3 := h1.cell x3; have r4 := h1.cell x4; have p0 := h1.cell z0; have p1 := h1.cell z1; have p2 := h1.cell z2; have p3 := h1.cell z3
              have hcw := fun b o => Below.cell (p := ⟨b, o, none⟩) h1
              go_simp; rfl
            simp only [Act.put, List.setIfInBounds_toArray, List.set_cons_succ, List.set_cons_zero, List.nil_append, List.cons_append]
            apply Run.valG (wanted_none rfl _)
            · intro w1 h1 hk
              have r0 := h1.cell x0; have r1 := h1.cell x1; have r2 := h1.cell x2; have r3 := h1.cell x3; have r4 := h1.cell x4; have p0 := h1.cell z0; have p1 := h1.cell z1; have p2 := h1.cell z2; have p3 := h1.cell z3
              have hcw := fun b o => Below.cell (p := ⟨b, o, none⟩) h1
              go_simp; rfl
            simp only [Act.put, List.setIfInBounds_toArray, List.set_cons_succ, List.set_cons_zero, List.nil_append, List.cons_append]
            apply Run.skip (by first | (go_simp; done) | (go_simp; exact fun h => nomatch h))
            simp only [Act.put, List.setIfInBounds_toArray, List.set_cons_succ, List.set_cons_zero, List.nil_append, List.cons_append]
            apply Run.skip (by first | (go_simp; done) | (go_simp; exact fun h => nomatch h))
            simp only [Act.put, List.setIfInBounds_toArray, List.set_cons_succ, List.set_cons_zero, List.nil_append, List.cons_append]
            apply Run.skip (by first | (go_simp; done) | (go_simp; exact fun h => nomatch h))
            simp only [Act.put, List.setIfInBounds_toArray, List.set_cons_succ, List.set_cons_zero, List.nil_append, List.cons_append]
            apply Run.skip (by first | (go_simp; done) | (go_simp; exact fun h => nomatch h))
            simp only [Act.put, List.setIfInBounds_toArray, List.set_cons_succ, List.set_cons_zero, List.nil_append, List.cons_append]
            apply Run.skip (by first | (go_simp; done) | (go_simp; exact fun h => nomatch h))
            simp only [Act.put, List.setIfInBounds_toArray, List.set_cons_succ, List.set_cons_zero, List.nil_append, List.cons_append]
            apply Run.skip (by first | (go_simp; done) | (go_simp; exact fun h => nomatch h))
            simp only [Act.put, List.setIfInBounds_toArray, List.set_cons_succ, List.set_cons_zero, List.nil_append, List.cons_append]
            apply Run.skip (by first | (go_simp; done) | (go_simp; exact fun h => nomatch h))
            simp only [Act.put, List.setIfInBounds_toArray, List.set_cons_succ, List.set_cons_zero, List.nil_append, List.cons_append]
            apply Run.valG (wanted_none rfl _)
            · intro w1 h1 hk
              have r0 := h1.cell x0; have r1 := h1.cell x1; have r2 := h1.cell x2; have r3 := h1.cell x3; have r4 := h1.cell x4; have p0 := h1.cell z0; have p1 := h1.cell z1; have p2 := h1.cell z2; have p3 := h1.cell z3
              have hcw := fun b o => Below.cell (p := ⟨b, o, none⟩) h1
              go_simp; rfl
            simp only [Act.put, List.setIfInBounds_toArray, List.set_cons_succ, List.set_cons_zero, List.nil_append, List.cons_append]
            apply Run.done
            intro w2 h2 hk
            clear hk
            have F9 := F01.out.trans ((Fut.drew _).trans h2)
            clear h2
            go_wp2
            go_ret
            exact ⟨rfl, F9⟩
        · have q1 : (v.toList == []) = false := by rw [beq_eq_false_iff_ne]; exact c1
          clear hz
          go_enter Tryz.func138, Tryz.ntmps138
          go_wp2
          refine wp_graph 13 [.d, .d, .d, .d, .d, .d, .d, .d, .d, .d, .d, .d, .d] (by kernel_rfl) (by kernel_rfl) (by kernel_rfl) ?_
          simp only [List.take_succ_cons, List.take_zero, List.drop_succ_cons, List.drop_zero, Exs]
          iterate 13 apply Exists.intro
          apply Run.valG (wanted_none rfl _)
          · intro w1 h1 hk
            have r0 := h1.cell x0; have r1 := h1.cell x1; have r2 := h1.cell x2; have r3 := h1.cell x3; have r4 := h1.cell x4; have p0 := h1.cell z0; have p1 := h1.cell z1; have p2 := h1.cell z2; have p3 := h1.cell z3
            have hcw := fun b o => Below.cell (p := ⟨b, o, none⟩) h1
            go_simp; rfl
          simp only [Act.put, List.setIfInBounds_toArray, List.set_cons_succ, List.set_cons_zero, List.nil_append, List.cons_append]
          apply Run.valG (wanted_none rfl _)
          · intro w1 h1 hk
            have r0 := h1.cell x0; have r1 := h1.cell x1; have r2 := h1.cell x2; have r3 := h1.cell x3; have r4 := h1.cell x4; have p0 := h1.cell z0; have p1 := h1.cell z1; have p2 := h1.cell z2; have p3 := h1.cell z3
            have hcw := fun b o => Below.cell (p := ⟨b, o, none⟩) h1
            go_simp; rfl
          simp only [Act.put, List.setIfInBounds_toArray, List.set_cons_succ, List.set_cons_zero, List.nil_append, List.cons_append]
          apply Run.valG (wanted_none rfl _)
          · intro w1 h1 hk
            have r0 := h1.cell x0; have r1 := h1.cell x1; have r2 := h1.cell x2; have r3 := h1.cell x3; have r4 := h1.cell x4; have p0 := h1.cell z0; have p1 := h1.cell z1; have p2 := h1.cell z2; have p3 := h1.cell z3
            have hcw := fun b o => Below.cell (p := ⟨b, o, none⟩) h1
            go_simp; rfl
          simp only [Act.put, List.setIfInBounds_toArray, List.set_cons_succ, List.set_cons_zero, List.nil_append, List.cons_append]
          apply Run.valG (wanted_none rfl _)
          · intro w1 h1 hk
            have r0 := h1.cell x0; have r1 := h1.cell x1; have r2 := h1.cell x2; have r3 := h1.cell x3; have r4 := h1.cell x4; have p0 := h1.cell z0; have p1 := h1.cell z1; have p2 := h1.cell z2; have p3 := h1.cell z3
            have hcw := fun b o => Below.cell (p := ⟨b, o, none⟩) h1
            go_simp; rfl
          simp only [Act.put, List.setIfInBounds_toArray, List.set_cons_succ, List.set_cons_zero, List.nil_append, List.cons_append]
          apply Run.valG (wanted_none rfl _)
          · intro w1 h1 hk
            have r0 := h1.cell x0; have r1 := h1.cell x1; have r2 := h1.cell x2; have r3 := h1.cell x3; have r4 := h1.cell x4; have p0 := h1.cell z0; have p1 := h1.cell z1; have p2 := h1.cell z2; have p3 := h1.cell z3
            have hcw := fun b o => Below.cell (p := ⟨b, o, none⟩) h1
            go_simp; rfl
          simp only [Act.put, List.setIfInBounds_toArray, List.set_cons_succ, List.set_cons_zero, List.nil_append, List.cons_append]
          apply Run.skip (by first | (go_simp; done) | (go_simp; exact fun h => nomatch h))
          simp only [Act.put, List.setIfInBounds_toArray, List.set_cons_succ, List.set_cons_zero, List.nil_append, List.cons_append]
          apply Run.skip (by first | (go_simp; done) | (go_simp; exact fun h => nomatch h))
          simp only [Act.put, List.setIfInBounds_toArray, List.set_cons_succ, List.set_cons_zero, List.nil_append, List.cons_append]
          apply Run.skip (by first | (go_simp; done) | (go_simp; exact fun h => nomatch h))
          simp only [Act.put, List.setIfInBounds_toArray, List.set_cons_succ, List.set_cons_zero, List.nil_append, List.cons_append]
          apply Run.skip (by first | (go_simp; done) | (go_simp; exact fun h => nomatch h))
          simp only [Act.put, List.setIfInBounds_toArray, List.set_cons_succ, List.set_cons_zero, List.nil_append, List.cons_append]
          apply Run.skip (by first | (go_simp; done) | (go_simp; exact fun h => nomatch h))
          simp only [Act.put, List.setIfInBounds_toArray, List.set_cons_succ, List.set_cons_zero, List.nil_append, List.cons_append]
          apply Run.skip (by first | (go_simp; done) | (go_simp; exact fun h => nomatch h))
          simp only [Act.put, List.setIfInBounds_toArray, List.set_cons_succ, List.set_cons_zero, List.nil_append, List.cons_append]
          apply Run.skip (by first | (go_simp; done) | (go_simp; exact fun h => nomatch h))
          simp only [Act.put, List.setIfInBounds_toArray, List.set_cons_succ, List.set_cons_zero, List.nil_append, List.cons_append]
          apply Run.valG (wanted_none rfl _)
          · intro w1 h1 hk
            have r0 := h1.cell x0; have r1 := h1.cell x1; have r2 := h1.cell x2; have r3 := h1.cell x3; have r4 := h1.cell x4; have p0 := h1.cell z0; have p1 := h1.cell z1; have p2 := h1.cell z2; have p3 := h1.cell z3
            have hcw := fun b o => Below.cell (p := ⟨b, o, none⟩) h1
            go_simp; rfl
          simp only [Act.put, List.setIfInBounds_toArray, List.set_cons_succ, List.set_cons_zero, List.nil_append, List.cons_append]
          apply Run.done
          intro w2 h2 hk
          clear hk
          have F9 := F01.out.trans ((Fut.drew _).trans h2)
          clear h2
          go_wp2
          go_ret
          exact ⟨rfl, F9⟩
end Go.Proofs.YtgcgmbegkfaifaaGreatDoor
/- The document's heads' terms and literals (layer 4): argument, literal. -/
namespace Go.Proofs.YtgcgmbegkfaifaaGreatDoor
open Go.RowKit
set_option linter.unusedSimpArgs false
set_option linter.unusedVariables false

set_option maxHeartbeats 2000000 in
set_option maxRecDepth 100000 in
theorem rargument_any (a : Ar) (w : World) (ht : a.t.ok) : Calls Tryz.prog 113 #[.agg #[.int .i8 a.g, .string a.t.v, .int .i8 a.t.x.k, .int .i64 a.t.x.n, .string a.t.x.s]] w fun e w' => e = .returned (.bool a.good) ∧ Fut w w' := by
  have HT := Lib.hid (fun W => rterm_any a.t W ht)
  obtain ⟨b, hb⟩ : ∃ b, a.good = b := ⟨_, rfl⟩
  rw [hb]
  obtain ⟨g, ⟨v, ⟨k, n, s⟩⟩⟩ := a
  replace hb : (if g = 0 then Tm.solid ⟨v, ⟨k, n, s⟩⟩ else if g = 1 then Tm.zero ⟨v, ⟨k, n, s⟩⟩ else if g = 2 ∨ g = 3 ∨ g = 4 then !decide (v.toList = []) && Tm.solid ⟨v, ⟨k, n, s⟩⟩ else false) = b := hb
  dsimp only at *
  clear ht
  have F01 := Lib.hid ((Fut.alloc w (.cells #[.int .i8 g, .string v, .int .i8 k, .int .i64 n, .string s] 85)).trans (Fut.alloc _ (.cells #[.string ⟨#[]⟩, .int .i8 0, .int .i64 0, .string ⟨#[]⟩] 63)))
  by_cases h0 : g = 0
  · subst h0
    rw [if_pos rfl] at hb
    by_cases hu : v.toList = [95]
    · obtain rfl : b = false := by rw [← hb]; simp [Tm.solid, hu]
      have hub : (v.toList == [95]) = true := by rw [hu]; rfl
      have hub2 : (v.toList != [95]) = false := by simp [bne, hub]
      go_enter Tryz.func113, Tryz.ntmps113
      go_wp2
      go_ret
      exact ⟨rfl, F01.out⟩
    · have hub : (v.toList == [95]) = false := by rw [beq_eq_false_iff_ne]; exact hu
      have hub2 : (v.toList != [95]) = true := by simp [bne, hub]
      have hbg : Tm.good ⟨v, ⟨k, n, s⟩⟩ = b := by rw [← hb]; simp [Tm.solid, hu]
      rw [hbg] at HT
      clear hb hbg
      go_enter Tryz.func113, Tryz.ntmps113
      go_wp2_with fail
      refine (HT.out _).mono ?_
      rintro e w1 ⟨rfl, f1⟩
      have F1 := F01.out.trans f1
      clear f1
      go_wp2
      go_ret
      exact ⟨rfl, F1⟩
  · have h0b : (g == 0) = false := by rw [beq_eq_false_iff_ne]; exact h0
    rw [if_neg h0] at hb
    by_cases h1 : g = 1
    · subst h1
      rw [if_pos rfl] at hb
      by_cases hz : v.toList = [] ∧ k = 0 ∧ n = 0 ∧ s.toList = []
      · obtain ⟨hv, rfl, rfl, hs⟩ := hz
        obtain rfl : b = true := by rw [← hb]; simp [Tm.zero, hv, hs]
        go_enter Tryz.func113, Tryz.ntmps113
        go_wp2
        go_ret
        exact ⟨by simp [hv, hs], F01.out⟩
      · obtain rfl : b = false := by
          rw [← hb, Bool.eq_false_iff]
          intro h
          simp [Tm.zero] at h
          exact hz ⟨h.1.1.1, h.1.1.2, h.1.2, h.2⟩
        clear hb
        go_enter Tryz.func113, Tryz.ntmps113
        go_wp2
        all_goals first
          | (exfalso; apply hz; refine ⟨?_, ?_, ?_, ?_⟩ <;> first | rfl | assumption)
          | (go_ret; exact ⟨rfl, (Fut.alloc _ _).trans (Fut.alloc _ _)⟩)
    · have h1b : (g == 1) = false := by rw [beq_eq_false_iff_ne]; exact h1
      rw [if_neg h1] at hb
      by_cases h2 : g = 2 ∨ g = 3 ∨ g = 4
      · rw [if_pos h2] at hb
        rcases h2 with rfl | rfl | rfl
        all_goals by_cases hv : v.toList = []
        all_goals first
          | (obtain rfl : b = false := (by rw [← hb]; simp [hv])
             have hvb : (v.toList == []) = true := (by rw [hv]; rfl)
             have hvb2 : (v.toList != []) = false := (by simp [bne, hvb])
             go_enter Tryz.func113, Tryz.ntmps113
             go_wp2
             go_ret
             exact ⟨rfl, F01.out⟩)
          | (have hvb : (v.toList == []) = false := (by rw [beq_eq_false_iff_ne]; exact hv)
             have hvb2 : (v.toList != []) = true := (by simp [bne, hvb])
             by_cases hu : v.toList = [95]
             · obtain rfl : b = false := (by rw [← hb]; simp [Tm.solid, hu])
               have hub : (v.toList == [95]) = true := (by rw [hu]; rfl)
               have hub2 : (v.toList != [95]) = false := (by simp [bne, hub])
               go_enter Tryz.func113, Tryz.ntmps113
               go_wp2
               go_ret
               exact ⟨rfl, F01.out⟩
             · have hub : (v.toList == [95]) = false := (by rw [beq_eq_false_iff_ne]; exact hu)
               have hub2 : (v.toList != [95]) = true := (by simp [bne, hub])
               have hbg : Tm.good ⟨v, ⟨k, n, s⟩⟩ = b := (by rw [← hb]; simp [Tm.solid, hu, hv])
               rw [hbg] at HT
               clear hb hbg
               go_enter Tryz.func113, Tryz.ntmps113
               go_wp2_with fail
               refine (HT.out _).mono ?_
               rintro e w1 ⟨rfl, f1⟩
               have F1 := F01.out.trans f1
               clear f1
               go_wp2
               go_ret
               exact ⟨rfl, F1⟩)
      · rw [if_neg h2] at hb
        subst hb
        have q2 : (g == 2) = false := by rw [beq_eq_false_iff_ne]; omega
        have q3 : (g == 3) = false := by rw [beq_eq_false_iff_ne]; omega
        have q4 : (g == 4) = false := by rw [beq_eq_false_iff_ne]; omega
        go_enter Tryz.func113, Tryz.ntmps113
        go_wp2
        go_ret
        exact ⟨rfl, F01.out⟩
end Go.Proofs.YtgcgmbegkfaifaaGreatDoor
