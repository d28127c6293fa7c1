/- Kinds -/
import Derived.Test.YtcpphabehpbmlaaC21
/- The law DependKinds: the edges are just the bodies' atoms, in order, each with its reason. -/
namespace Go.Proofs.Ytcpphabehpbmlaa
open Go.RowKit Go.WideMaps Go.Maps
set_option linter.unusedSimpArgs false
set_option linter.unusedVariables false

theorem bo_at {M : Nat} {w : World} {A : Option Addr} {n cap : Nat} {xs : List Bool} (h : SlRep 1 M RBo w (.slice A n cap) xs) {k : Nat} (hk : k < xs.length) :
    ∃ b off, A = some ⟨b, off, none⟩ ∧ w.cell? ⟨b, off + k, none⟩ = some (.bool xs[k]) := by
  obtain ⟨A1, cap1, hv, _, _, h3⟩ := h
  obtain ⟨b, off, cs, hA, hl, hc, hr⟩ := h3 k _ (List.getElem?_eq_getElem hk)
  injection hv with hv _ _
  obtain rfl : cs = _ := hr
  refine ⟨b, off, hv.trans hA, ?_⟩
  have := hc 0 _ rfl
  rwa [Nat.mul_one, Nat.add_zero] at this
theorem ar_at' {M : Nat} {w : World} {A : Option Addr} {n cap : Nat} {xs : List Ar} (h : SlRep 5 M RAr w (.slice A n cap) xs) {k : Nat} (hk : k < xs.length) :
    ∃ b off, A = some ⟨b, off, none⟩ ∧ w.cell? ⟨b, off + k * 5, none⟩ = some (.int .i8 (xs[k]).g) := by
  obtain ⟨A1, cap1, hv, _, _, h3⟩ := h
  obtain ⟨b, off, cs, hA, hl, hc, hr, _⟩ := h3 k _ (List.getElem?_eq_getElem hk)
  injection hv with hv _ _
  subst hr
  exact ⟨b, off, hv.trans hA, hc 0 _ rfl⟩
theorem within_small {rs : List Ru} (h : Within rs) : Small rs := by
  unfold Small
  have := h.1
  omega
theorem edges_at {rs : List Ru} {k m : Nat} {l : Lt} (hk : k < rs.length) (hl : (rs[k].b.filter Lt.isA)[m]? = some l) :
    (edgesP (rs.take k)).length + m < (edgesP rs).length ∧ (edgesP rs)[(edgesP (rs.take k)).length + m]? = some (rs[k].edge (k : Nat) l) := by
  have hm : m < (rs[k].b.filter Lt.isA).length := (List.getElem?_eq_some_iff.1 hl).1
  have h2 : edgesP rs = edgesP (rs.take k) ++ ((rs.drop k).zipIdx k).flatMap fun x => x.1.edges (x.2 : Nat) := by
    unfold edgesP
    conv => lhs; rw [← List.take_append_drop k rs]
    rw [List.zipIdx_append, List.flatMap_append, List.length_take, Nat.min_eq_left (Nat.le_of_lt hk), Nat.zero_add]
  have h3 : (edgesP rs)[(edgesP (rs.take k)).length + m]? = some (rs[k].edge (k : Nat) l) := by
    rw [h2, List.getElem?_append_right (by omega), Nat.add_sub_cancel_left, List.drop_eq_getElem_cons hk, List.zipIdx_cons, List.flatMap_cons]
    have hl9 : m < (rs[k].edges (k : Nat)).length := by unfold Ru.edges; rw [List.length_map]; exact hm
    rw [List.getElem?_append_left hl9]
    unfold Ru.edges
    rw [List.getElem?_map, hl]
    rfl
  exact ⟨(List.getElem?_eq_some_iff.1 h3).1, h3⟩
set_option maxHeartbeats 4000000 in
set_option maxRecDepth 100000 in
theorem kinds_any {M : Nat} (a : Value) (rs : List Ru) (w : World) (h : SlRep 3 M RRu w a rs) (hM : M ≤ 9223372036854775807) :
    Calls Try.prog 3 #[a] w fun e w' => e = .returned (.bool true) ∧ Fut w w' := by
  have HB := Lib.hid (beyondR_any a rs w h hM)
  obtain ⟨A, c, rfl, hl1, hl2⟩ := h.form
  have hxl : rs.length ≤ 9223372036854775807 := by omega
  have H := Lib.hid h
  clear hl1 hl2 h
  go_enter Try.func3, Try.ntmps3
  go_wp2_with fail
  refine HB.out.mono ?_
  rintro e w1 ⟨b, rfl, hb, f1⟩
  cases b
  · have hW := hb rfl
    have hS := within_small hW
    have HE := Lib.hid (edges_any A c rs w1 (H.out.fut RRu.stays f1) hM hS)
    have HS := Lib.hid hS
    have F1 := Lib.hid f1
    clear hb hW hS HB f1
    go_wp2_with fail
    refine HE.out.mono ?_
    rintro e w2 ⟨ev, rfl, hev, f2⟩
    have F2 := Lib.hid (F1.out.trans f2)
    obtain ⟨Ae, ce, rfl, he1, he2⟩ := hev.rep.form
    have HEv := Lib.hid hev
    have hel : (edgesP rs).length ≤ 10000000 := HS.out.edges
    clear hev f2 HE he1 he2
    go_wp2_with fail
    go_loopw [4, 5] (fun p i wr => ∃ k : Nat, k ≤ rs.length ∧ i = .int .i64 k ∧ p = .int .i64 ((edgesP (rs.take k)).length : Nat) ∧ Hid (Fut w2 wr)) (fun _ i _ => rs.length - (intOf i).toNat)
    case atStart => exact ⟨0, Nat.zero_le _, rfl, rfl, Lib.hid (Fut.refl _)⟩
    case round =>
      obtain ⟨k, hk, rfl, rfl, hF⟩ := hrel
      obtain ⟨wA, rfl⟩ : ∃ x, x = wr := ⟨_, rfl⟩
      by_cases hlt : k < rs.length
      · have hltI : (k : Int) < rs.length := by omega
        have e0 : (0 : Int) ≤ k ∧ (k : Int) < rs.length := by omega
        obtain ⟨b', off, Ah, ch, Ab, cb, rfl, u0, u1, u2, hp, hh1, hh2⟩ := ru_at H.out hlt
        have F2A := F2.out.trans hF.out
        have q0 := F2A.cell u0
        have q1 := F2A.cell u1
        have q2 := F2A.cell u2
        have hea := Lib.hid (fun m l hl => edges_at (rs := rs) hlt (m := m) (l := l) hl)
        have hnx := Lib.hid (edges_take hlt)
        have hmem := HS.out.mem (List.getElem_mem hlt)
        obtain ⟨r, hrk⟩ : ∃ r, rs[k] = r := ⟨_, rfl⟩
        rw [hrk] at u0 u1 u2 hp hh1 hh2 hnx hmem hea q0 q1 q2
        have HMK := Lib.hid (fun W (hW : Fut w W) => makes_any r Ah Ab ch cb W hp (hh1.fut RAr.stays hW) (hh2.fut RLt.stays hW) (by omega))
        have HAT := Lib.hid (fun W (hW : Fut w W) => lawAtoms_any r (k : Nat) Ah Ab ch cb W (hh2.fut RLt.stays hW) (by omega))
        have HNT := Lib.hid (fun W (hW : Fut w W) => nots_any r Ah Ab ch cb W (hh2.fut RLt.stays hW) (by omega))
        have HH1 := Lib.hid hh1
        have hrl : r.h.length ≤ 9223372036854775807 := by
          obtain ⟨_, _, _, h8, h9⟩ := hh1.form
          omega
        have hbl := hmem.2
        obtain ⟨P0, hP0⟩ : ∃ x, (edgesP (rs.take k)).length = x := ⟨_, rfl⟩
        have hP1 : (edgesP (rs.take (k + 1))).length = P0 + (r.b.filter Lt.isA).length := by
          rw [hnx.out, List.length_append, hP0]
          unfold Ru.edges
          rw [List.length_map]
        rw [hP0] at hea ⊢
        have hP1' := Lib.hid hP1
        have F2A' := Lib.hid F2A
        clear u0 u1 u2 hp hh1 hh2 hrk hmem hnx hP0 hP1 F2A
        go_wp2_with fail
        go_loopw [6, 7] (fun ag i wr => ∃ m : Nat, m ≤ r.h.length ∧ i = .int .i64 m ∧ ag = .bool ((r.h.take m).any Ar.agg) ∧ Hid (Fut wA wr)) (fun _ i _ => r.h.length - (intOf i).toNat)
        case atStart => exact ⟨0, Nat.zero_le _, rfl, rfl, Lib.hid (Fut.refl _)⟩
        case round =>
          obtain ⟨m, hm, rfl, rfl, hFm⟩ := hrel
          obtain ⟨wB, rfl⟩ : ∃ x, x = wr := ⟨_, rfl⟩
          have x1 := hFm.out.cell q1
          by_cases hlm : m < r.h.length
          · have hlmI : (m : Int) < r.h.length := by omega
            have e1 : (0 : Int) ≤ m ∧ (m : Int) < r.h.length := by omega
            obtain ⟨b2, off2, rfl, x2⟩ := ar_at' (HH1.out.fut RAr.stays (F2A'.out.trans hFm.out)) hlm
            have hnx2 := Lib.hid (show (r.h.take (m + 1)).any Ar.agg = ((r.h.take m).any Ar.agg || (r.h[m]).agg) by rw [List.take_succ_eq_append_getElem hlm, List.any_append]; simp)
            generalize r.h[m] = z at *
            unfold Ar.agg at hnx2
            obtain ⟨ag, hag⟩ : ∃ g, (r.h.take m).any Ar.agg = g := ⟨_, rfl⟩
            rw [show (r.h.take m).any (fun a => !decide (a.g = 0)) = ag from hag] at hnx2
            rw [hag]
            clear hag
            generalize z.g = zg at *
            cases ag
            · by_cases hg : zg = 0
              · have hn3 := Lib.hid (show (r.h.take (m + 1)).any Ar.agg = false by rw [show (r.h.take (m + 1)).any Ar.agg = _ from hnx2.out, hg]; rfl)
                subst hg
                go_wp2
                go_roundw
                case rel => exact ⟨m + 1, by omega, by go_num, by rw [hn3.out], hFm⟩
                case measure => simp [intOf] <;> omega
              · have hn3 := Lib.hid (show (r.h.take (m + 1)).any Ar.agg = true by rw [show (r.h.take (m + 1)).any Ar.agg = _ from hnx2.out, decide_eq_false hg]; rfl)
                have hg2 : (zg == 0) = false := by rw [beq_eq_false_iff_ne]; exact hg
                have hg3 : (zg != 0) = true := by simp [bne, hg2]
                go_wp2
                go_roundw
                case rel => exact ⟨m + 1, by omega, by go_num, by rw [hn3.out], hFm⟩
                case measure => simp [intOf] <;> omega
            · have hn3 := Lib.hid (show (r.h.take (m + 1)).any Ar.agg = true by rw [show (r.h.take (m + 1)).any Ar.agg = _ from hnx2.out]; rfl)
              go_wp2
              go_roundw
              case rel => exact ⟨m + 1, by omega, by go_num, by rw [hn3.out], hFm⟩
              case measure => simp [intOf] <;> omega
          · obtain rfl : m = r.h.length := by omega
            rw [List.take_length]
            have x0 := hFm.out.cell q0
            have x2 := hFm.out.cell q2
            have FB := Lib.hid (F2A'.out.trans hFm.out)
            have hag9 : r.h.any Ar.agg = r.agg := rfl
            rw [hag9]
            have hFm' := hFm
            clear hag9 q0 q1 q2 hFm hlm hm
            go_wp2_with fail
            refine (HMK.out _ FB.out).mono ?_
            rintro e w3 ⟨rfl, f3⟩
            have y0 := f3.cell x0
            have y1 := f3.cell x1
            have y2 := f3.cell x2
            have F3 := Lib.hid (FB.out.trans f3)
            have F23 := Lib.hid (hF.out.trans (hFm'.out.trans f3))
            clear x0 x1 x2 f3 FB hFm'
            go_wp2_with fail
            refine (HAT.out _ F3.out).mono ?_
            rintro e w4 ⟨av, rfl, hav, f4⟩
            have x0 := f4.cell y0
            have x1 := f4.cell y1
            have x2 := f4.cell y2
            obtain ⟨Aa, ca, rfl, ha1, ha2⟩ := hav.rep.form
            have F4 := Lib.hid (F3.out.trans f4)
            have HAv := Lib.hid hav
            have F24 := Lib.hid (F23.out.trans f4)
            clear y0 y1 y2 f4 F3 hav ha1 ha2 F23
            go_wp2_with fail
            refine (HNT.out _ F4.out).mono ?_
            rintro e w5 ⟨nv, rfl, hnv, f5⟩
            obtain ⟨An, cn, rfl, hn1, hn2⟩ := hnv.rep.form
            have HAv5 := Lib.hid (HAv.out.fut REd.stays f5)
            have HNv := Lib.hid hnv
            have F5 := Lib.hid (F4.out.trans f5)
            have hfl := List.length_filter_le Lt.isA r.b
            have hnl : (r.b.filter Lt.isA).length ≤ 9223372036854775807 := by omega
            have F25 := Lib.hid (F24.out.trans f5)
            clear x0 x1 x2 f5 F24 F4 HAv hnv hn1 hn2 HMK HAT HNT hfl
            rw [List.length_map]
            obtain ⟨F, hF9⟩ : ∃ F, r.b.filter Lt.isA = F := ⟨_, rfl⟩
            rw [hF9] at HAv5 HNv hnl hP1' ⊢
            simp only [hF9] at hea
            have hagk : r.kind = if r.agg = true then 3 else if r.makes = true then 4 else 1 := rfl
            obtain ⟨ag, hag⟩ : ∃ g, r.agg = g := ⟨_, rfl⟩
            obtain ⟨mk, hmk⟩ : ∃ g, r.makes = g := ⟨_, rfl⟩
            rw [hag, hmk] at hagk ⊢
            replace hagk := Lib.hid hagk
            clear hag hmk hF9
            go_wp2_with fail
            go_loopw [4, 11] (fun p i wr => ∃ m q : Nat, m ≤ F.length ∧ i = .int .i64 m ∧ p = .int .i64 q ∧ Hid (q = P0 + m) ∧ Hid (Fut w5 wr)) (fun _ i _ => F.length - (intOf i).toNat)
            case atStart => exact ⟨0, P0, Nat.zero_le _, rfl, rfl, Lib.hid rfl, Lib.hid (Fut.refl _)⟩
            case round =>
              obtain ⟨m, q, hm, rfl, rfl, hq, hFm⟩ := hrel
              obtain ⟨wC, rfl⟩ : ∃ x, x = wr := ⟨_, rfl⟩
              by_cases hlm : m < F.length
              · have hlmI : (m : Int) < F.length := by omega
                have e1 : (0 : Int) ≤ m ∧ (m : Int) < F.length := by omega
                obtain ⟨l, hl⟩ : ∃ l, F[m]? = some l := ⟨_, List.getElem?_eq_getElem hlm⟩
                have hle : F[m] = l := Option.some.inj ((List.getElem?_eq_getElem hlm).symm.trans hl)
                obtain ⟨hPl, hPe⟩ := hea.out m l hl
                rw [← hq.out] at hPl hPe
                obtain ⟨ba, oa, rfl, hca⟩ := ed_at' (HAv5.out.fut REd.stays hFm.out).rep (k := m) (by rw [List.length_map]; exact hlm)
                obtain ⟨bn, on, rfl, n0⟩ := bo_at (HNv.out.fut RBo.stays hFm.out).rep (k := m) (by rw [List.length_map]; exact hlm)
                obtain ⟨be, oe, rfl, hce⟩ := ed_at' (HEv.out.fut REd.stays (F25.out.trans hFm.out)).rep hPl
                rw [List.getElem?_eq_getElem hPl] at hPe
                rw [Option.some.inj hPe] at hce
                rw [List.getElem_map, hle] at n0
                simp only [List.getElem_map, lawEd, hle] at hca
                have hfe : (r.edge (k : Nat) l).f = r.p := rfl
                have hte : (r.edge (k : Nat) l).t = l.p := rfl
                have hre : (r.edge (k : Nat) l).r = (k : Nat) := rfl
                have hke : (r.edge (k : Nat) l).k = if l.k = 2 then 2 else if ag = true then 3 else if mk = true then 4 else 1 := by rw [← hagk.out]; rfl
                rw [hfe, hte, hre] at hce
                unfold notG at n0
                generalize (r.edge (k : Nat) l).k = kd at *
                obtain ⟨w6, hw6⟩ : ∃ W, wC.alloc (.cells [.string r.p, .string l.p, .int .i8 0, .int .i64 (k : Nat)].toArray 47) = W := ⟨_, rfl⟩
                have f6 : Fut wC w6 := by rw [← hw6]; exact Fut.alloc _ _
                have hrb : w6.heap[wC.heap.size]? = some (.cells #[.string r.p, .string l.p, .int .i8 0, .int .i64 (k : Nat)] 47 (0, 0)) := by rw [← hw6]; exact heap_alloc_new wC _
                have hone : ∀ v ∈ ([.string r.p, .string l.p, .int .i8 0, .int .i64 (k : Nat)] : List Value), v.oneCell' = true := fun v hv => by
                  simp only [List.mem_cons, List.not_mem_nil, or_false] at hv
                  rcases hv with rfl | rfl | rfl | rfl <;> rfl
                have hPlI3 : (q : Int) < (edgesP rs).length := by omega
                have hPlI4 : ¬ (((edgesP rs).length : Int) ≤ (q : Int)) := by omega
                have e6 : (0 : Int) ≤ (q : Int) ∧ (q : Int) < (edgesP rs).length := by omega
                have hq2 := Lib.hid (show q + 1 = P0 + (m + 1) by have := hq.out; omega)
                have hPlN : q < (edgesP rs).length := hPl
                have hPlM : ¬ (edgesP rs).length ≤ q := by omega
                clear hPe hPl hq
                -- KINDS-BEGIN
                cases mk
                · cases ag
                  · by_cases hn : l.k = 2
                    · have hkd : kd = 2 := by rw [hke, if_pos hn]
                      subst hkd
                      have n1 : decide (l.k = 2) = true := decide_eq_true hn
                      rw [n1] at n0
                      have t0 := cell_at hrb 2 (.int .i8 0) rfl
                      have u0 := free_at hrb 2
                      obtain ⟨y0, hy0⟩ : ∃ W, w6.setCell ⟨wC.heap.size, 2, none⟩ (.int .i8 1) = W := ⟨_, rfl⟩
                      have g0 := set_block (j := 2) (v := .int .i8 1) hrb
                      have ff0 := f6.set (p := ⟨wC.heap.size, 2, none⟩) (Nat.le_refl _) (.int .i8 1)
                      rw [hy0] at g0 ff0
                      replace hy0 := Lib.hid hy0
                      have FM := ff0
                      have t1 := cell_at g0 2 (.int .i8 1) rfl
                      have u1 := free_at g0 2
                      obtain ⟨y1, hy1⟩ : ∃ W, y0.setCell ⟨wC.heap.size, 2, none⟩ (.int .i8 2) = W := ⟨_, rfl⟩
                      have g1 := set_block (j := 2) (v := .int .i8 2) g0
                      have ff1 := ff0.set (p := ⟨wC.heap.size, 2, none⟩) (Nat.le_refl _) (.int .i8 2)
                      rw [hy1] at g1 ff1
                      replace hy1 := Lib.hid hy1
                      have FN := ff1
                      have n2 := FM.cell n0
                      have hi3 := infoKd
                      have q0 := cell_at g1 0 (.string r.p) rfl
                      have s0 := FN.cell (show wC.cell? ⟨be, oe + q * 4, none⟩ = some (.string r.p) from hce 0 _ rfl)
                      have q1 := cell_at g1 1 (.string l.p) rfl
                      have s1 := FN.cell (show wC.cell? ⟨be, oe + q * 4 + 1, none⟩ = some (.string l.p) from hce 1 _ rfl)
                      have q2 := cell_at g1 2 (.int .i8 2) rfl
                      have s2 := FN.cell (show wC.cell? ⟨be, oe + q * 4 + 2, none⟩ = some (.int .i8 2) from hce 2 _ rfl)
                      have q3 := cell_at g1 3 (.int .i64 (k : Nat)) rfl
                      have s3 := FN.cell (show wC.cell? ⟨be, oe + q * 4 + 3, none⟩ = some (.int .i64 (k : Nat)) from hce 3 _ rfl)
                      have hw6h := Lib.hid hw6
                      have hca9 := Lib.hid hca
                      have FZ := Lib.hid (hFm.out.trans FN)
                      clear hw6 hca hce n0 n1 hke FM FN g0 ff0 g1 ff1 f6 hrb hea hle hl HEv HAv5 HNv hn
                      go_wp2_with (first | (show wpList _ _ _ (Oper.mk _ (Op.load _ _) _ _ _ _ :: Oper.mk _ (Op.alloc _) _ _ _ _ :: _) _ _; refine wpList_rangeBox [.string r.p, .string l.p, .int .i8 0, .int .i64 (k : Nat)] rfl rfl rfl rfl rfl rfl rfl hca9.out Try.underlying47 infoEdZ' rfl hone rfl rfl hw6h.out ?_) | (show wpList _ _ _ (Oper.mk _ (Op.store _ _ _) _ _ _ _ :: _) _ _; refine wpList_store_1 (wanted_none rfl _) _ _ rfl rfl rfl hi3 rfl t0 u0 hy0.out ?_) | (show wpList _ _ _ (Oper.mk _ (Op.store _ _ _) _ _ _ _ :: _) _ _; refine wpList_store_1 (wanted_none rfl _) _ _ rfl rfl rfl hi3 rfl t1 u1 hy1.out ?_))
                      clear n2 t0 u0 t1 u1
                      refine wp_graph 12 [.d, .d, .d, .d, .d, .d, .d, .d, .d, .d, .d, .d] (by kernel_rfl) (by kernel_rfl) (by kernel_rfl) ?_
                      simp only [List.take_succ_cons, List.take_zero, List.drop_succ_cons, List.drop_zero, Exs]
                      iterate 12 apply Exists.intro
                      apply Run.valG (wanted_none rfl _)
                      · intro w1 h1 hk
                        have r0 := h1.cell q0; have r1 := h1.cell q1; have r2 := h1.cell q2; have r3 := h1.cell q3; have r4 := h1.cell s0; have r5 := h1.cell s1; have r6 := h1.cell s2; have r7 := h1.cell s3
                        have hcw := fun b o => Below.cell (p := ⟨b, o, none⟩) h1
                        go_simp; rfl
                      simp only [Act.put, List.setIfInBounds_toArray, List.set_cons_succ, List.set_cons_zero, List.nil_append, List.cons_append]
                      apply Run.valG (wanted_none rfl _)
                      · intro w1 h1 hk
                        have r0 := h1.cell q0; have r1 := h1.cell q1; have r2 := h1.cell q2; have r3 := h1.cell q3; have r4 := h1.cell s0; have r5 := h1.cell s1; have r6 := h1.cell s2; have r7 := h1.cell s3
                        have hcw := fun b o => Below.cell (p := ⟨b, o, none⟩) h1
                        go_simp; rfl
                      simp only [Act.put, List.setIfInBounds_toArray, List.set_cons_succ, List.set_cons_zero, List.nil_append, List.cons_append]
                      apply Run.valG (wanted_none rfl _)
                      · intro w1 h1 hk
                        have r0 := h1.cell q0; have r1 := h1.cell q1; have r2 := h1.cell q2; have r3 := h1.cell q3; have r4 := h1.cell s0; have r5 := h1.cell s1; have r6 := h1.cell s2; have r7 := h1.cell s3
                        have hcw := fun b o => Below.cell (p := ⟨b, o, none⟩) h1
                        go_simp; rfl
                      simp only [Act.put, List.setIfInBounds_toArray, List.set_cons_succ, List.set_cons_zero, List.nil_append, List.cons_append]
                      apply Run.valG (wanted_none rfl _)
                      · intro w1 h1 hk
                        have r0 := h1.cell q0; have r1 := h1.cell q1; have r2 := h1.cell q2; have r3 := h1.cell q3; have r4 := h1.cell s0; have r5 := h1.cell s1; have r6 := h1.cell s2; have r7 := h1.cell s3
                        have hcw := fun b o => Below.cell (p := ⟨b, o, none⟩) h1
                        go_simp; rfl
                      simp only [Act.put, List.setIfInBounds_toArray, List.set_cons_succ, List.set_cons_zero, List.nil_append, List.cons_append]
                      apply Run.valG (wanted_none rfl _)
                      · intro w1 h1 hk
                        have r0 := h1.cell q0; have r1 := h1.cell q1; have r2 := h1.cell q2; have r3 := h1.cell q3; have r4 := h1.cell s0; have r5 := h1.cell s1; have r6 := h1.cell s2; have r7 := h1.cell s3
                        have hcw := fun b o => Below.cell (p := ⟨b, o, none⟩) h1
                        go_simp; rfl
                      simp only [Act.put, List.setIfInBounds_toArray, List.set_cons_succ, List.set_cons_zero, List.nil_append, List.cons_append]
                      apply Run.valG (by go_simp)
                      · intro w1 h1 hk
                        have r0 := h1.cell q0; have r1 := h1.cell q1; have r2 := h1.cell q2; have r3 := h1.cell q3; have r4 := h1.cell s0; have r5 := h1.cell s1; have r6 := h1.cell s2; have r7 := h1.cell s3
                        have hcw := fun b o => Below.cell (p := ⟨b, o, none⟩) h1
                        go_simp; rfl
                      simp only [Act.put, List.setIfInBounds_toArray, List.set_cons_succ, List.set_cons_zero, List.nil_append, List.cons_append]
                      apply Run.valG (by go_simp)
                      · intro w1 h1 hk
                        have r0 := h1.cell q0; have r1 := h1.cell q1; have r2 := h1.cell q2; have r3 := h1.cell q3; have r4 := h1.cell s0; have r5 := h1.cell s1; have r6 := h1.cell s2; have r7 := h1.cell s3
                        have hcw := fun b o => Below.cell (p := ⟨b, o, none⟩) h1
                        go_simp; rfl
                      simp only [Act.put, List.setIfInBounds_toArray, List.set_cons_succ, List.set_cons_zero, List.nil_append, List.cons_append]
                      apply Run.valG (by go_simp)
                      · intro w1 h1 hk
                        have r0 := h1.cell q0; have r1 := h1.cell q1; have r2 := h1.cell q2; have r3 := h1.cell q3; have r4 := h1.cell s0; have r5 := h1.cell s1; have r6 := h1.cell s2; have r7 := h1.cell s3
                        have hcw := fun b o => Below.cell (p := ⟨b, o, none⟩) h1
                        go_simp; rfl
                      simp only [Act.put, List.setIfInBounds_toArray, List.set_cons_succ, List.set_cons_zero, List.nil_append, List.cons_append]
                      apply Run.valG (by go_simp)
                      · intro w1 h1 hk
                        have r0 := h1.cell q0; have r1 := h1.cell q1; have r2 := h1.cell q2; have r3 := h1.cell q3; have r4 := h1.cell s0; have r5 := h1.cell s1; have r6 := h1.cell s2; have r7 := h1.cell s3
                        have hcw := fun b o => Below.cell (p := ⟨b, o, none⟩) h1
                        go_simp; rfl
                      simp only [Act.put, List.setIfInBounds_toArray, List.set_cons_succ, List.set_cons_zero, List.nil_append, List.cons_append]
                      apply Run.valG (by go_simp)
                      · intro w1 h1 hk
                        have r0 := h1.cell q0; have r1 := h1.cell q1; have r2 := h1.cell q2; have r3 := h1.cell q3; have r4 := h1.cell s0; have r5 := h1.cell s1; have r6 := h1.cell s2; have r7 := h1.cell s3
                        have hcw := fun b o => Below.cell (p := ⟨b, o, none⟩) h1
                        go_simp; rfl
                      simp only [Act.put, List.setIfInBounds_toArray, List.set_cons_succ, List.set_cons_zero, List.nil_append, List.cons_append]
                      apply Run.valG (by go_simp)
                      · intro w1 h1 hk
                        have r0 := h1.cell q0; have r1 := h1.cell q1; have r2 := h1.cell q2; have r3 := h1.cell q3; have r4 := h1.cell s0; have r5 := h1.cell s1; have r6 := h1.cell s2; have r7 := h1.cell s3
                        have hcw := fun b o => Below.cell (p := ⟨b, o, none⟩) h1
                        go_simp; rfl
                      simp only [Act.put, List.setIfInBounds_toArray, List.set_cons_succ, List.set_cons_zero, List.nil_append, List.cons_append]
                      apply Run.valG (wanted_none rfl _)
                      · intro w1 h1 hk
                        have r0 := h1.cell q0; have r1 := h1.cell q1; have r2 := h1.cell q2; have r3 := h1.cell q3; have r4 := h1.cell s0; have r5 := h1.cell s1; have r6 := h1.cell s2; have r7 := h1.cell s3
                        have hcw := fun b o => Below.cell (p := ⟨b, o, none⟩) h1
                        go_simp; rfl
                      simp only [Act.put, List.setIfInBounds_toArray, List.set_cons_succ, List.set_cons_zero, List.nil_append, List.cons_append]
                      apply Run.done
                      intro w2 h2 hk
                      clear hk
                      have F9 := Lib.hid (FZ.out.trans ((Fut.drew _).trans h2))
                      clear h2 q0 q1 q2 q3 s0 s1 s2 s3
                      go_wp2
                      go_roundw
                      case rel => exact ⟨m + 1, q + 1, by omega, by go_num, by go_num, hq2, F9⟩
                      case measure => simp [intOf] <;> omega
                    · have hkd : kd = 1 := by rw [hke, if_neg hn]; rfl
                      subst hkd
                      have n1 : decide (l.k = 2) = false := decide_eq_false hn
                      rw [n1] at n0
                      have t0 := cell_at hrb 2 (.int .i8 0) rfl
                      have u0 := free_at hrb 2
                      obtain ⟨y0, hy0⟩ : ∃ W, w6.setCell ⟨wC.heap.size, 2, none⟩ (.int .i8 1) = W := ⟨_, rfl⟩
                      have g0 := set_block (j := 2) (v := .int .i8 1) hrb
                      have ff0 := f6.set (p := ⟨wC.heap.size, 2, none⟩) (Nat.le_refl _) (.int .i8 1)
                      rw [hy0] at g0 ff0
                      replace hy0 := Lib.hid hy0
                      have FM := ff0
                      have FN := ff0
                      have n2 := FM.cell n0
                      have hi3 := infoKd
                      have q0 := cell_at g0 0 (.string r.p) rfl
                      have s0 := FN.cell (show wC.cell? ⟨be, oe + q * 4, none⟩ = some (.string r.p) from hce 0 _ rfl)
                      have q1 := cell_at g0 1 (.string l.p) rfl
                      have s1 := FN.cell (show wC.cell? ⟨be, oe + q * 4 + 1, none⟩ = some (.string l.p) from hce 1 _ rfl)
                      have q2 := cell_at g0 2 (.int .i8 1) rfl
                      have s2 := FN.cell (show wC.cell? ⟨be, oe + q * 4 + 2, none⟩ = some (.int .i8 1) from hce 2 _ rfl)
                      have q3 := cell_at g0 3 (.int .i64 (k : Nat)) rfl
                      have s3 := FN.cell (show wC.cell? ⟨be, oe + q * 4 + 3, none⟩ = some (.int .i64 (k : Nat)) from hce 3 _ rfl)
                      have hw6h := Lib.hid hw6
                      have hca9 := Lib.hid hca
                      have FZ := Lib.hid (hFm.out.trans FN)
                      clear hw6 hca hce n0 n1 hke FM FN g0 ff0 f6 hrb hea hle hl HEv HAv5 HNv hn
                      go_wp2_with (first | (show wpList _ _ _ (Oper.mk _ (Op.load _ _) _ _ _ _ :: Oper.mk _ (Op.alloc _) _ _ _ _ :: _) _ _; refine wpList_rangeBox [.string r.p, .string l.p, .int .i8 0, .int .i64 (k : Nat)] rfl rfl rfl rfl rfl rfl rfl hca9.out Try.underlying47 infoEdZ' rfl hone rfl rfl hw6h.out ?_) | (show wpList _ _ _ (Oper.mk _ (Op.store _ _ _) _ _ _ _ :: _) _ _; refine wpList_store_1 (wanted_none rfl _) _ _ rfl rfl rfl hi3 rfl t0 u0 hy0.out ?_))
                      clear n2 t0 u0
                      refine wp_graph 12 [.d, .d, .d, .d, .d, .d, .d, .d, .d, .d, .d, .d] (by kernel_rfl) (by kernel_rfl) (by kernel_rfl) ?_
                      simp only [List.take_succ_cons, List.take_zero, List.drop_succ_cons, List.drop_zero, Exs]
                      iterate 12 apply Exists.intro
                      apply Run.valG (wanted_none rfl _)
                      · intro w1 h1 hk
                        have r0 := h1.cell q0; have r1 := h1.cell q1; have r2 := h1.cell q2; have r3 := h1.cell q3; have r4 := h1.cell s0; have r5 := h1.cell s1; have r6 := h1.cell s2; have r7 := h1.cell s3
                        have hcw := fun b o => Below.cell (p := ⟨b, o, none⟩) h1
                        go_simp; rfl
                      simp only [Act.put, List.setIfInBounds_toArray, List.set_cons_succ, List.set_cons_zero, List.nil_append, List.cons_append]
                      apply Run.valG (wanted_none rfl _)
                      · intro w1 h1 hk
                        have r0 := h1.cell q0; have r1 := h1.cell q1; have r2 := h1.cell q2; have r3 := h1.cell q3; have r4 := h1.cell s0; have r5 := h1.cell s1; have r6 := h1.cell s2; have r7 := h1.cell s3
                        have hcw := fun b o => Below.cell (p := ⟨b, o, none⟩) h1
                        go_simp; rfl
                      simp only [Act.put, List.setIfInBounds_toArray, List.set_cons_succ, List.set_cons_zero, List.nil_append, List.cons_append]
                      apply Run.valG (wanted_none rfl _)
                      · intro w1 h1 hk
                        have r0 := h1.cell q0; have r1 := h1.cell q1; have r2 := h1.cell q2; have r3 := h1.cell q3; have r4 := h1.cell s0; have r5 := h1.cell s1; have r6 := h1.cell s2; have r7 := h1.cell s3
                        have hcw := fun b o => Below.cell (p := ⟨b, o, none⟩) h1
                        go_simp; rfl
                      simp only [Act.put, List.setIfInBounds_toArray, List.set_cons_succ, List.set_cons_zero, List.nil_append, List.cons_append]
                      apply Run.valG (wanted_none rfl _)
                      · intro w1 h1 hk
                        have r0 := h1.cell q0; have r1 := h1.cell q1; have r2 := h1.cell q2; have r3 := h1.cell q3; have r4 := h1.cell s0; have r5 := h1.cell s1; have r6 := h1.cell s2; have r7 := h1.cell s3
                        have hcw := fun b o => Below.cell (p := ⟨b, o, none⟩) h1
                        go_simp; rfl
                      simp only [Act.put, List.setIfInBounds_toArray, List.set_cons_succ, List.set_cons_zero, List.nil_append, List.cons_append]
                      apply Run.valG (wanted_none rfl _)
                      · intro w1 h1 hk
                        have r0 := h1.cell q0; have r1 := h1.cell q1; have r2 := h1.cell q2; have r3 := h1.cell q3; have r4 := h1.cell s0; have r5 := h1.cell s1; have r6 := h1.cell s2; have r7 := h1.cell s3
                        have hcw := fun b o => Below.cell (p := ⟨b, o, none⟩) h1
                        go_simp; rfl
                      simp only [Act.put, List.setIfInBounds_toArray, List.set_cons_succ, List.set_cons_zero, List.nil_append, List.cons_append]
                      apply Run.valG (by go_simp)
                      · intro w1 h1 hk
                        have r0 := h1.cell q0; have r1 := h1.cell q1; have r2 := h1.cell q2; have r3 := h1.cell q3; have r4 := h1.cell s0; have r5 := h1.cell s1; have r6 := h1.cell s2; have r7 := h1.cell s3
                        have hcw := fun b o => Below.cell (p := ⟨b, o, none⟩) h1
                        go_simp; rfl
                      simp only [Act.put, List.setIfInBounds_toArray, List.set_cons_succ, List.set_cons_zero, List.nil_append, List.cons_append]
                      apply Run.valG (by go_simp)
                      · intro w1 h1 hk
                        have r0 := h1.cell q0; have r1 := h1.cell q1; have r2 := h1.cell q2; have r3 := h1.cell q3; have r4 := h1.cell s0; have r5 := h1.cell s1; have r6 := h1.cell s2; have r7 := h1.cell s3
                        have hcw := fun b o => Below.cell (p := ⟨b, o, none⟩) h1
                        go_simp; rfl
                      simp only [Act.put, List.setIfInBounds_toArray, List.set_cons_succ, List.set_cons_zero, List.nil_append, List.cons_append]
                      apply Run.valG (by go_simp)
                      · intro w1 h1 hk
                        have r0 := h1.cell q0; have r1 := h1.cell q1; have r2 := h1.cell q2; have r3 := h1.cell q3; have r4 := h1.cell s0; have r5 := h1.cell s1; have r6 := h1.cell s2; have r7 := h1.cell s3
                        have hcw := fun b o => Below.cell (p := ⟨b, o, none⟩) h1
                        go_simp; rfl
                      simp only [Act.put, List.setIfInBounds_toArray, List.set_cons_succ, List.set_cons_zero, List.nil_append, List.cons_append]
                      apply Run.valG (by go_simp)
                      · intro w1 h1 hk
                        have r0 := h1.cell q0; have r1 := h1.cell q1; have r2 := h1.cell q2; have r3 := h1.cell q3; have r4 := h1.cell s0; have r5 := h1.cell s1; have r6 := h1.cell s2; have r7 := h1.cell s3
                        have hcw := fun b o => Below.cell (p := ⟨b, o, none⟩) h1
                        go_simp; rfl
                      simp only [Act.put, List.setIfInBounds_toArray, List.set_cons_succ, List.set_cons_zero, List.nil_append, List.cons_append]
                      apply Run.valG (by go_simp)
                      · intro w1 h1 hk
                        have r0 := h1.cell q0; have r1 := h1.cell q1; have r2 := h1.cell q2; have r3 := h1.cell q3; have r4 := h1.cell s0; have r5 := h1.cell s1; have r6 := h1.cell s2; have r7 := h1.cell s3
                        have hcw := fun b o => Below.cell (p := ⟨b, o, none⟩) h1
                        go_simp; rfl
                      simp only [Act.put, List.setIfInBounds_toArray, List.set_cons_succ, List.set_cons_zero, List.nil_append, List.cons_append]
                      apply Run.valG (by go_simp)
                      · intro w1 h1 hk
                        have r0 := h1.cell q0; have r1 := h1.cell q1; have r2 := h1.cell q2; have r3 := h1.cell q3; have r4 := h1.cell s0; have r5 := h1.cell s1; have r6 := h1.cell s2; have r7 := h1.cell s3
                        have hcw := fun b o => Below.cell (p := ⟨b, o, none⟩) h1
                        go_simp; rfl
                      simp only [Act.put, List.setIfInBounds_toArray, List.set_cons_succ, List.set_cons_zero, List.nil_append, List.cons_append]
                      apply Run.valG (wanted_none rfl _)
                      · intro w1 h1 hk
                        have r0 := h1.cell q0; have r1 := h1.cell q1; have r2 := h1.cell q2; have r3 := h1.cell q3; have r4 := h1.cell s0; have r5 := h1.cell s1; have r6 := h1.cell s2; have r7 := h1.cell s3
                        have hcw := fun b o => Below.cell (p := ⟨b, o, none⟩) h1
                        go_simp; rfl
                      simp only [Act.put, List.setIfInBounds_toArray, List.set_cons_succ, List.set_cons_zero, List.nil_append, List.cons_append]
                      apply Run.done
                      intro w2 h2 hk
                      clear hk
                      have F9 := Lib.hid (FZ.out.trans ((Fut.drew _).trans h2))
                      clear h2 q0 q1 q2 q3 s0 s1 s2 s3
                      go_wp2
                      go_roundw
                      case rel => exact ⟨m + 1, q + 1, by omega, by go_num, by go_num, hq2, F9⟩
                      case measure => simp [intOf] <;> omega
                  · by_cases hn : l.k = 2
                    · have hkd : kd = 2 := by rw [hke, if_pos hn]
                      subst hkd
                      have n1 : decide (l.k = 2) = true := decide_eq_true hn
                      rw [n1] at n0
                      have t0 := cell_at hrb 2 (.int .i8 0) rfl
                      have u0 := free_at hrb 2
                      obtain ⟨y0, hy0⟩ : ∃ W, w6.setCell ⟨wC.heap.size, 2, none⟩ (.int .i8 1) = W := ⟨_, rfl⟩
                      have g0 := set_block (j := 2) (v := .int .i8 1) hrb
                      have ff0 := f6.set (p := ⟨wC.heap.size, 2, none⟩) (Nat.le_refl _) (.int .i8 1)
                      rw [hy0] at g0 ff0
                      replace hy0 := Lib.hid hy0
                      have t1 := cell_at g0 2 (.int .i8 1) rfl
                      have u1 := free_at g0 2
                      obtain ⟨y1, hy1⟩ : ∃ W, y0.setCell ⟨wC.heap.size, 2, none⟩ (.int .i8 3) = W := ⟨_, rfl⟩
                      have g1 := set_block (j := 2) (v := .int .i8 3) g0
                      have ff1 := ff0.set (p := ⟨wC.heap.size, 2, none⟩) (Nat.le_refl _) (.int .i8 3)
                      rw [hy1] at g1 ff1
                      replace hy1 := Lib.hid hy1
                      have FM := ff1
                      have t2 := cell_at g1 2 (.int .i8 3) rfl
                      have u2 := free_at g1 2
                      obtain ⟨y2, hy2⟩ : ∃ W, y1.setCell ⟨wC.heap.size, 2, none⟩ (.int .i8 2) = W := ⟨_, rfl⟩
                      have g2 := set_block (j := 2) (v := .int .i8 2) g1
                      have ff2 := ff1.set (p := ⟨wC.heap.size, 2, none⟩) (Nat.le_refl _) (.int .i8 2)
                      rw [hy2] at g2 ff2
                      replace hy2 := Lib.hid hy2
                      have FN := ff2
                      have n2 := FM.cell n0
                      have hi3 := infoKd
                      have q0 := cell_at g2 0 (.string r.p) rfl
                      have s0 := FN.cell (show wC.cell? ⟨be, oe + q * 4, none⟩ = some (.string r.p) from hce 0 _ rfl)
                      have q1 := cell_at g2 1 (.string l.p) rfl
                      have s1 := FN.cell (show wC.cell? ⟨be, oe + q * 4 + 1, none⟩ = some (.string l.p) from hce 1 _ rfl)
                      have q2 := cell_at g2 2 (.int .i8 2) rfl
                      have s2 := FN.cell (show wC.cell? ⟨be, oe + q * 4 + 2, none⟩ = some (.int .i8 2) from hce 2 _ rfl)
                      have q3 := cell_at g2 3 (.int .i64 (k : Nat)) rfl
                      have s3 := FN.cell (show wC.cell? ⟨be, oe + q * 4 + 3, none⟩ = some (.int .i64 (k : Nat)) from hce 3 _ rfl)
                      have hw6h := Lib.hid hw6
                      have hca9 := Lib.hid hca
                      have FZ := Lib.hid (hFm.out.trans FN)
                      clear hw6 hca hce n0 n1 hke FM FN g0 ff0 g1 ff1 g2 ff2 f6 hrb hea hle hl HEv HAv5 HNv hn
                      go_wp2_with (first | (show wpList _ _ _ (Oper.mk _ (Op.load _ _) _ _ _ _ :: Oper.mk _ (Op.alloc _) _ _ _ _ :: _) _ _; refine wpList_rangeBox [.string r.p, .string l.p, .int .i8 0, .int .i64 (k : Nat)] rfl rfl rfl rfl rfl rfl rfl hca9.out Try.underlying47 infoEdZ' rfl hone rfl rfl hw6h.out ?_) | (show wpList _ _ _ (Oper.mk _ (Op.store _ _ _) _ _ _ _ :: _) _ _; refine wpList_store_1 (wanted_none rfl _) _ _ rfl rfl rfl hi3 rfl t0 u0 hy0.out ?_) | (show wpList _ _ _ (Oper.mk _ (Op.store _ _ _) _ _ _ _ :: _) _ _; refine wpList_store_1 (wanted_none rfl _) _ _ rfl rfl rfl hi3 rfl t1 u1 hy1.out ?_) | (show wpList _ _ _ (Oper.mk _ (Op.store _ _ _) _ _ _ _ :: _) _ _; refine wpList_store_1 (wanted_none rfl _) _ _ rfl rfl rfl hi3 rfl t2 u2 hy2.out ?_))
                      clear n2 t0 u0 t1 u1 t2 u2
                      refine wp_graph 12 [.d, .d, .d, .d, .d, .d, .d, .d, .d, .d, .d, .d] (by kernel_rfl) (by kernel_rfl) (by kernel_rfl) ?_
                      simp only [List.take_succ_cons, List.take_zero, List.drop_succ_cons, List.drop_zero, Exs]
                      iterate 12 apply Exists.intro
                      apply Run.valG (wanted_none rfl _)
                      · intro w1 h1 hk
                        have r0 := h1.cell q0; have r1 := h1.cell q1; have r2 := h1.cell q2; have r3 := h1.cell q3; have r4 := h1.cell s0; have r5 := h1.cell s1; have r6 := h1.cell s2; have r7 := h1.cell s3
                        have hcw := fun b o => Below.cell (p := ⟨b, o, none⟩) h1
                        go_simp; rfl
                      simp only [Act.put, List.setIfInBounds_toArray, List.set_cons_succ, List.set_cons_zero, List.nil_append, List.cons_append]
                      apply Run.valG (wanted_none rfl _)
                      · intro w1 h1 hk
                        have r0 := h1.cell q0; have r1 := h1.cell q1; have r2 := h1.cell q2; have r3 := h1.cell q3; have r4 := h1.cell s0; have r5 := h1.cell s1; have r6 := h1.cell s2; have r7 := h1.cell s3
                        have hcw := fun b o => Below.cell (p := ⟨b, o, none⟩) h1
                        go_simp; rfl
                      simp only [Act.put, List.setIfInBounds_toArray, List.set_cons_succ, List.set_cons_zero, List.nil_append, List.cons_append]
                      apply Run.valG (wanted_none rfl _)
                      · intro w1 h1 hk
                        have r0 := h1.cell q0; have r1 := h1.cell q1; have r2 := h1.cell q2; have r3 := h1.cell q3; have r4 := h1.cell s0; have r5 := h1.cell s1; have r6 := h1.cell s2; have r7 := h1.cell s3
                        have hcw := fun b o => Below.cell (p := ⟨b, o, none⟩) h1
                        go_simp; rfl
                      simp only [Act.put, List.setIfInBounds_toArray, List.set_cons_succ, List.set_cons_zero, List.nil_append, List.cons_append]
                      apply Run.valG (wanted_none rfl _)
                      · intro w1 h1 hk
                        have r0 := h1.cell q0; have r1 := h1.cell q1; have r2 := h1.cell q2; have r3 := h1.cell q3; have r4 := h1.cell s0; have r5 := h1.cell s1; have r6 := h1.cell s2; have r7 := h1.cell s3
                        have hcw := fun b o => Below.cell (p := ⟨b, o, none⟩) h1
                        go_simp; rfl
                      simp only [Act.put, List.setIfInBounds_toArray, List.set_cons_succ, List.set_cons_zero, List.nil_append, List.cons_append]
                      apply Run.valG (wanted_none rfl _)
                      · intro w1 h1 hk
                        have r0 := h1.cell q0; have r1 := h1.cell q1; have r2 := h1.cell q2; have r3 := h1.cell q3; have r4 := h1.cell s0; have r5 := h1.cell s1; have r6 := h1.cell s2; have r7 := h1.cell s3
                        have hcw := fun b o => Below.cell (p := ⟨b, o, none⟩) h1
                        go_simp; rfl
                      simp only [Act.put, List.setIfInBounds_toArray, List.set_cons_succ, List.set_cons_zero, List.nil_append, List.cons_append]
                      apply Run.valG (by go_simp)
                      · intro w1 h1 hk
                        have r0 := h1.cell q0; have r1 := h1.cell q1; have r2 := h1.cell q2; have r3 := h1.cell q3; have r4 := h1.cell s0; have r5 := h1.cell s1; have r6 := h1.cell s2; have r7 := h1.cell s3
                        have hcw := fun b o => Below.cell (p := ⟨b, o, none⟩) h1
                        go_simp; rfl
                      simp only [Act.put, List.setIfInBounds_toArray, List.set_cons_succ, List.set_cons_zero, List.nil_append, List.cons_append]
                      apply Run.valG (by go_simp)
                      · intro w1 h1 hk
                        have r0 := h1.cell q0; have r1 := h1.cell q1; have r2 := h1.cell q2; have r3 := h1.cell q3; have r4 := h1.cell s0; have r5 := h1.cell s1; have r6 := h1.cell s2; have r7 := h1.cell s3
                        have hcw := fun b o => Below.cell (p := ⟨b, o, none⟩) h1
                        go_simp; rfl
                      simp only [Act.put, List.setIfInBounds_toArray, List.set_cons_succ, List.set_cons_zero, List.nil_append, List.cons_append]
                      apply Run.valG (by go_simp)
                      · intro w1 h1 hk
                        have r0 := h1.cell q0; have r1 := h1.cell q1; have r2 := h1.cell q2; have r3 := h1.cell q3; have r4 := h1.cell s0; have r5 := h1.cell s1; have r6 := h1.cell s2; have r7 := h1.cell s3
                        have hcw := fun b o => Below.cell (p := ⟨b, o, none⟩) h1
                        go_simp; rfl
                      simp only [Act.put, List.setIfInBounds_toArray, List.set_cons_succ, List.set_cons_zero, List.nil_append, List.cons_append]
                      apply Run.valG (by go_simp)
                      · intro w1 h1 hk
                        have r0 := h1.cell q0; have r1 := h1.cell q1; have r2 := h1.cell q2; have r3 := h1.cell q3; have r4 := h1.cell s0; have r5 := h1.cell s1; have r6 := h1.cell s2; have r7 := h1.cell s3
                        have hcw := fun b o => Below.cell (p := ⟨b, o, none⟩) h1
                        go_simp; rfl
                      simp only [Act.put, List.setIfInBounds_toArray, List.set_cons_succ, List.set_cons_zero, List.nil_append, List.cons_append]
                      apply Run.valG (by go_simp)
                      · intro w1 h1 hk
                        have r0 := h1.cell q0; have r1 := h1.cell q1; have r2 := h1.cell q2; have r3 := h1.cell q3; have r4 := h1.cell s0; have r5 := h1.cell s1; have r6 := h1.cell s2; have r7 := h1.cell s3
                        have hcw := fun b o => Below.cell (p := ⟨b, o, none⟩) h1
                        go_simp; rfl
                      simp only [Act.put, List.setIfInBounds_toArray, List.set_cons_succ, List.set_cons_zero, List.nil_append, List.cons_append]
                      apply Run.valG (by go_simp)
                      · intro w1 h1 hk
                        have r0 := h1.cell q0; have r1 := h1.cell q1; have r2 := h1.cell q2; have r3 := h1.cell q3; have r4 := h1.cell s0; have r5 := h1.cell s1; have r6 := h1.cell s2; have r7 := h1.cell s3
                        have hcw := fun b o => Below.cell (p := ⟨b, o, none⟩) h1
                        go_simp; rfl
                      simp only [Act.put, List.setIfInBounds_toArray, List.set_cons_succ, List.set_cons_zero, List.nil_append, List.cons_append]
                      apply Run.valG (wanted_none rfl _)
                      · intro w1 h1 hk
                        have r0 := h1.cell q0; have r1 := h1.cell q1; have r2 := h1.cell q2; have r3 := h1.cell q3; have r4 := h1.cell s0; have r5 := h1.cell s1; have r6 := h1.cell s2; have r7 := h1.cell s3
                        have hcw := fun b o => Below.cell (p := ⟨b, o, none⟩) h1
                        go_simp; rfl
                      simp only [Act.put, List.setIfInBounds_toArray, List.set_cons_succ, List.set_cons_zero, List.nil_append, List.cons_append]
                      apply Run.done
                      intro w2 h2 hk
                      clear hk
                      have F9 := Lib.hid (FZ.out.trans ((Fut.drew _).trans h2))
                      clear h2 q0 q1 q2 q3 s0 s1 s2 s3
                      go_wp2
                      go_roundw
                      case rel => exact ⟨m + 1, q + 1, by omega, by go_num, by go_num, hq2, F9⟩
                      case measure => simp [intOf] <;> omega
                    · have hkd : kd = 3 := by rw [hke, if_neg hn]; rfl
                      subst hkd
                      have n1 : decide (l.k = 2) = false := decide_eq_false hn
                      rw [n1] at n0
                      have t0 := cell_at hrb 2 (.int .i8 0) rfl
                      have u0 := free_at hrb 2
                      obtain ⟨y0, hy0⟩ : ∃ W, w6.setCell ⟨wC.heap.size, 2, none⟩ (.int .i8 1) = W := ⟨_, rfl⟩
                      have g0 := set_block (j := 2) (v := .int .i8 1) hrb
                      have ff0 := f6.set (p := ⟨wC.heap.size, 2, none⟩) (Nat.le_refl _) (.int .i8 1)
                      rw [hy0] at g0 ff0
                      replace hy0 := Lib.hid hy0
                      have t1 := cell_at g0 2 (.int .i8 1) rfl
                      have u1 := free_at g0 2
                      obtain ⟨y1, hy1⟩ : ∃ W, y0.setCell ⟨wC.heap.size, 2, none⟩ (.int .i8 3) = W := ⟨_, rfl⟩
                      have g1 := set_block (j := 2) (v := .int .i8 3) g0
                      have ff1 := ff0.set (p := ⟨wC.heap.size, 2, none⟩) (Nat.le_refl _) (.int .i8 3)
                      rw [hy1] at g1 ff1
                      replace hy1 := Lib.hid hy1
                      have FM := ff1
                      have FN := ff1
                      have n2 := FM.cell n0
                      have hi3 := infoKd
                      have q0 := cell_at g1 0 (.string r.p) rfl
                      have s0 := FN.cell (show wC.cell? ⟨be, oe + q * 4, none⟩ = some (.string r.p) from hce 0 _ rfl)
                      have q1 := cell_at g1 1 (.string l.p) rfl
                      have s1 := FN.cell (show wC.cell? ⟨be, oe + q * 4 + 1, none⟩ = some (.string l.p) from hce 1 _ rfl)
                      have q2 := cell_at g1 2 (.int .i8 3) rfl
                      have s2 := FN.cell (show wC.cell? ⟨be, oe + q * 4 + 2, none⟩ = some (.int .i8 3) from hce 2 _ rfl)
                      have q3 := cell_at g1 3 (.int .i64 (k : Nat)) rfl
                      have s3 := FN.cell (show wC.cell? ⟨be, oe + q * 4 + 3, none⟩ = some (.int .i64 (k : Nat)) from hce 3 _ rfl)
                      have hw6h := Lib.hid hw6
                      have hca9 := Lib.hid hca
                      have FZ := Lib.hid (hFm.out.trans FN)
                      clear hw6 hca hce n0 n1 hke FM FN g0 ff0 g1 ff1 f6 hrb hea hle hl HEv HAv5 HNv hn
                      go_wp2_with (first | (show wpList _ _ _ (Oper.mk _ (Op.load _ _) _ _ _ _ :: Oper.mk _ (Op.alloc _) _ _ _ _ :: _) _ _; refine wpList_rangeBox [.string r.p, .string l.p, .int .i8 0, .int .i64 (k : Nat)] rfl rfl rfl rfl rfl rfl rfl hca9.out Try.underlying47 infoEdZ' rfl hone rfl rfl hw6h.out ?_) | (show wpList _ _ _ (Oper.mk _ (Op.store _ _ _) _ _ _ _ :: _) _ _; refine wpList_store_1 (wanted_none rfl _) _ _ rfl rfl rfl hi3 rfl t0 u0 hy0.out ?_) | (show wpList _ _ _ (Oper.mk _ (Op.store _ _ _) _ _ _ _ :: _) _ _; refine wpList_store_1 (wanted_none rfl _) _ _ rfl rfl rfl hi3 rfl t1 u1 hy1.out ?_))
                      clear n2 t0 u0 t1 u1
                      refine wp_graph 12 [.d, .d, .d, .d, .d, .d, .d, .d, .d, .d, .d, .d] (by kernel_rfl) (by kernel_rfl) (by kernel_rfl) ?_
                      simp only [List.take_succ_cons, List.take_zero, List.drop_succ_cons, List.drop_zero, Exs]
                      iterate 12 apply Exists.intro
                      apply Run.valG (wanted_none rfl _)
                      · intro w1 h1 hk
                        have r0 := h1.cell q0; have r1 := h1.cell q1; have r2 := h1.cell q2; have r3 := h1.cell q3; have r4 := h1.cell s0; have r5 := h1.cell s1; have r6 := h1.cell s2; have r7 := h1.cell s3
                        have hcw := fun b o => Below.cell (p := ⟨b, o, none⟩) h1
                        go_simp; rfl
                      simp only [Act.put, List.setIfInBounds_toArray, List.set_cons_succ, List.set_cons_zero, List.nil_append, List.cons_append]
                      apply Run.valG (wanted_none rfl _)
                      · intro w1 h1 hk
                        have r0 := h1.cell q0; have r1 := h1.cell q1; have r2 := h1.cell q2; have r3 := h1.cell q3; have r4 := h1.cell s0; have r5 := h1.cell s1; have r6 := h1.cell s2; have r7 := h1.cell s3
                        have hcw := fun b o => Below.cell (p := ⟨b, o, none⟩) h1
                        go_simp; rfl
                      simp only [Act.put, List.setIfInBounds_toArray, List.set_cons_succ, List.set_cons_zero, List.nil_append, List.cons_append]
                      apply Run.valG (wanted_none rfl _)
                      · intro w1 h1 hk
                        have r0 := h1.cell q0; have r1 := h1.cell q1; have r2 := h1.cell q2; have r3 := h1.cell q3; have r4 := h1.cell s0; have r5 := h1.cell s1; have r6 := h1.cell s2; have r7 := h1.cell s3
                        have hcw := fun b o => Below.cell (p := ⟨b, o, none⟩) h1
                        go_simp; rfl
                      simp only [Act.put, List.setIfInBounds_toArray, List.set_cons_succ, List.set_cons_zero, List.nil_append, List.cons_append]
                      apply Run.valG (wanted_none rfl _)
                      · intro w1 h1 hk
                        have r0 := h1.cell q0; have r1 := h1.cell q1; have r2 := h1.cell q2; have r3 := h1.cell q3; have r4 := h1.cell s0; have r5 := h1.cell s1; have r6 := h1.cell s2; have r7 := h1.cell s3
                        have hcw := fun b o => Below.cell (p := ⟨b, o, none⟩) h1
                        go_simp; rfl
                      simp only [Act.put, List.setIfInBounds_toArray, List.set_cons_succ, List.set_cons_zero, List.nil_append, List.cons_append]
                      apply Run.valG (wanted_none rfl _)
                      · intro w1 h1 hk
                        have r0 := h1.cell q0; have r1 := h1.cell q1; have r2 := h1.cell q2; have r3 := h1.cell q3; have r4 := h1.cell s0; have r5 := h1.cell s1; have r6 := h1.cell s2; have r7 := h1.cell s3
                        have hcw := fun b o => Below.cell (p := ⟨b, o, none⟩) h1
                        go_simp; rfl
                      simp only [Act.put, List.setIfInBounds_toArray, List.set_cons_succ, List.set_cons_zero, List.nil_append, List.cons_append]
                      apply Run.valG (by go_simp)
                      · intro w1 h1 hk
                        have r0 := h1.cell q0; have r1 := h1.cell q1; have r2 := h1.cell q2; have r3 := h1.cell q3; have r4 := h1.cell s0; have r5 := h1.cell s1; have r6 := h1.cell s2; have r7 := h1.cell s3
                        have hcw := fun b o => Below.cell (p := ⟨b, o, none⟩) h1
                        go_simp; rfl
                      simp only [Act.put, List.setIfInBounds_toArray, List.set_cons_succ, List.set_cons_zero, List.nil_append, List.cons_append]
                      apply Run.valG (by go_simp)
                      · intro w1 h1 hk
                        have r0 := h1.cell q0; have r1 := h1.cell q1; have r2 := h1.cell q2; have r3 := h1.cell q3; have r4 := h1.cell s0; have r5 := h1.cell s1; have r6 := h1.cell s2; have r7 := h1.cell s3
                        have hcw := fun b o => Below.cell (p := ⟨b, o, none⟩) h1
                        go_simp; rfl
                      simp only [Act.put, List.setIfInBounds_toArray, List.set_cons_succ, List.set_cons_zero, List.nil_append, List.cons_append]
                      apply Run.valG (by go_simp)
                      · intro w1 h1 hk
                        have r0 := h1.cell q0; have r1 := h1.cell q1; have r2 := h1.cell q2; have r3 := h1.cell q3; have r4 := h1.cell s0; have r5 := h1.cell s1; have r6 := h1.cell s2; have r7 := h1.cell s3
                        have hcw := fun b o => Below.cell (p := ⟨b, o, none⟩) h1
                        go_simp; rfl
                      simp only [Act.put, List.setIfInBounds_toArray, List.set_cons_succ, List.set_cons_zero, List.nil_append, List.cons_append]
                      apply Run.valG (by go_simp)
                      · intro w1 h1 hk
                        have r0 := h1.cell q0; have r1 := h1.cell q1; have r2 := h1.cell q2; have r3 := h1.cell q3; have r4 := h1.cell s0; have r5 := h1.cell s1; have r6 := h1.cell s2; have r7 := h1.cell s3
                        have hcw := fun b o => Below.cell (p := ⟨b, o, none⟩) h1
                        go_simp; rfl
                      simp only [Act.put, List.setIfInBounds_toArray, List.set_cons_succ, List.set_cons_zero, List.nil_append, List.cons_append]
                      apply Run.valG (by go_simp)
                      · intro w1 h1 hk
                        have r0 := h1.cell q0; have r1 := h1.cell q1; have r2 := h1.cell q2; have r3 := h1.cell q3; have r4 := h1.cell s0; have r5 := h1.cell s1; have r6 := h1.cell s2; have r7 := h1.cell s3
                        have hcw := fun b o => Below.cell (p := ⟨b, o, none⟩) h1
                        go_simp; rfl
                      simp only [Act.put, List.setIfInBounds_toArray, List.set_cons_succ, List.set_cons_zero, List.nil_append, List.cons_append]
                      apply Run.valG (by go_simp)
                      · intro w1 h1 hk
                        have r0 := h1.cell q0; have r1 := h1.cell q1; have r2 := h1.cell q2; have r3 := h1.cell q3; have r4 := h1.cell s0; have r5 := h1.cell s1; have r6 := h1.cell s2; have r7 := h1.cell s3
                        have hcw := fun b o => Below.cell (p := ⟨b, o, none⟩) h1
                        go_simp; rfl
                      simp only [Act.put, List.setIfInBounds_toArray, List.set_cons_succ, List.set_cons_zero, List.nil_append, List.cons_append]
                      apply Run.valG (wanted_none rfl _)
                      · intro w1 h1 hk
                        have r0 := h1.cell q0; have r1 := h1.cell q1; have r2 := h1.cell q2; have r3 := h1.cell q3; have r4 := h1.cell s0; have r5 := h1.cell s1; have r6 := h1.cell s2; have r7 := h1.cell s3
                        have hcw := fun b o => Below.cell (p := ⟨b, o, none⟩) h1
                        go_simp; rfl
                      simp only [Act.put, List.setIfInBounds_toArray, List.set_cons_succ, List.set_cons_zero, List.nil_append, List.cons_append]
                      apply Run.done
                      intro w2 h2 hk
                      clear hk
                      have F9 := Lib.hid (FZ.out.trans ((Fut.drew _).trans h2))
                      clear h2 q0 q1 q2 q3 s0 s1 s2 s3
                      go_wp2
                      go_roundw
                      case rel => exact ⟨m + 1, q + 1, by omega, by go_num, by go_num, hq2, F9⟩
                      case measure => simp [intOf] <;> omega
                · cases ag
                  · by_cases hn : l.k = 2
                    · have hkd : kd = 2 := by rw [hke, if_pos hn]
                      subst hkd
                      have n1 : decide (l.k = 2) = true := decide_eq_true hn
                      rw [n1] at n0
                      have t0 := cell_at hrb 2 (.int .i8 0) rfl
                      have u0 := free_at hrb 2
                      obtain ⟨y0, hy0⟩ : ∃ W, w6.setCell ⟨wC.heap.size, 2, none⟩ (.int .i8 1) = W := ⟨_, rfl⟩
                      have g0 := set_block (j := 2) (v := .int .i8 1) hrb
                      have ff0 := f6.set (p := ⟨wC.heap.size, 2, none⟩) (Nat.le_refl _) (.int .i8 1)
                      rw [hy0] at g0 ff0
                      replace hy0 := Lib.hid hy0
                      have t1 := cell_at g0 2 (.int .i8 1) rfl
                      have u1 := free_at g0 2
                      obtain ⟨y1, hy1⟩ : ∃ W, y0.setCell ⟨wC.heap.size, 2, none⟩ (.int .i8 4) = W := ⟨_, rfl⟩
                      have g1 := set_block (j := 2) (v := .int .i8 4) g0
                      have ff1 := ff0.set (p := ⟨wC.heap.size, 2, none⟩) (Nat.le_refl _) (.int .i8 4)
                      rw [hy1] at g1 ff1
                      replace hy1 := Lib.hid hy1
                      have FM := ff1
                      have t2 := cell_at g1 2 (.int .i8 4) rfl
                      have u2 := free_at g1 2
                      obtain ⟨y2, hy2⟩ : ∃ W, y1.setCell ⟨wC.heap.size, 2, none⟩ (.int .i8 2) = W := ⟨_, rfl⟩
                      have g2 := set_block (j := 2) (v := .int .i8 2) g1
                      have ff2 := ff1.set (p := ⟨wC.heap.size, 2, none⟩) (Nat.le_refl _) (.int .i8 2)
                      rw [hy2] at g2 ff2
                      replace hy2 := Lib.hid hy2
                      have FN := ff2
                      have n2 := FM.cell n0
                      have hi3 := infoKd
                      have q0 := cell_at g2 0 (.string r.p) rfl
                      have s0 := FN.cell (show wC.cell? ⟨be, oe + q * 4, none⟩ = some (.string r.p) from hce 0 _ rfl)
                      have q1 := cell_at g2 1 (.string l.p) rfl
                      have s1 := FN.cell (show wC.cell? ⟨be, oe + q * 4 + 1, none⟩ = some (.string l.p) from hce 1 _ rfl)
                      have q2 := cell_at g2 2 (.int .i8 2) rfl
                      have s2 := FN.cell (show wC.cell? ⟨be, oe + q * 4 + 2, none⟩ = some (.int .i8 2) from hce 2 _ rfl)
                      have q3 := cell_at g2 3 (.int .i64 (k : Nat)) rfl
                      have s3 := FN.cell (show wC.cell? ⟨be, oe + q * 4 + 3, none⟩ = some (.int .i64 (k : Nat)) from hce 3 _ rfl)
                      have hw6h := Lib.hid hw6
                      have hca9 := Lib.hid hca
                      have FZ := Lib.hid (hFm.out.trans FN)
                      clear hw6 hca hce n0 n1 hke FM FN g0 ff0 g1 ff1 g2 ff2 f6 hrb hea hle hl HEv HAv5 HNv hn
                      go_wp2_with (first | (show wpList _ _ _ (Oper.mk _ (Op.load _ _) _ _ _ _ :: Oper.mk _ (Op.alloc _) _ _ _ _ :: _) _ _; refine wpList_rangeBox [.string r.p, .string l.p, .int .i8 0, .int .i64 (k : Nat)] rfl rfl rfl rfl rfl rfl rfl hca9.out Try.underlying47 infoEdZ' rfl hone rfl rfl hw6h.out ?_) | (show wpList _ _ _ (Oper.mk _ (Op.store _ _ _) _ _ _ _ :: _) _ _; refine wpList_store_1 (wanted_none rfl _) _ _ rfl rfl rfl hi3 rfl t0 u0 hy0.out ?_) | (show wpList _ _ _ (Oper.mk _ (Op.store _ _ _) _ _ _ _ :: _) _ _; refine wpList_store_1 (wanted_none rfl _) _ _ rfl rfl rfl hi3 rfl t1 u1 hy1.out ?_) | (show wpList _ _ _ (Oper.mk _ (Op.store _ _ _) _ _ _ _ :: _) _ _; refine wpList_store_1 (wanted_none rfl _) _ _ rfl rfl rfl hi3 rfl t2 u2 hy2.out ?_))
                      clear n2 t0 u0 t1 u1 t2 u2
                      refine wp_graph 12 [.d, .d, .d, .d, .d, .d, .d, .d, .d, .d, .d, .d] (by kernel_rfl) (by kernel_rfl) (by kernel_rfl) ?_
                      simp only [List.take_succ_cons, List.take_zero, List.drop_succ_cons, List.drop_zero, Exs]
                      iterate 12 apply Exists.intro
                      apply Run.valG (wanted_none rfl _)
                      · intro w1 h1 hk
                        have r0 := h1.cell q0; have r1 := h1.cell q1; have r2 := h1.cell q2; have r3 := h1.cell q3; have r4 := h1.cell s0; have r5 := h1.cell s1; have r6 := h1.cell s2; have r7 := h1.cell s3
                        have hcw := fun b o => Below.cell (p := ⟨b, o, none⟩) h1
                        go_simp; rfl
                      simp only [Act.put, List.setIfInBounds_toArray, List.set_cons_succ, List.set_cons_zero, List.nil_append, List.cons_append]
                      apply Run.valG (wanted_none rfl _)
                      · intro w1 h1 hk
                        have r0 := h1.cell q0; have r1 := h1.cell q1; have r2 := h1.cell q2; have r3 := h1.cell q3; have r4 := h1.cell s0; have r5 := h1.cell s1; have r6 := h1.cell s2; have r7 := h1.cell s3
                        have hcw := fun b o => Below.cell (p := ⟨b, o, none⟩) h1
                        go_simp; rfl
                      simp only [Act.put, List.setIfInBounds_toArray, List.set_cons_succ, List.set_cons_zero, List.nil_append, List.cons_append]
                      apply Run.valG (wanted_none rfl _)
                      · intro w1 h1 hk
                        have r0 := h1.cell q0; have r1 := h1.cell q1; have r2 := h1.cell q2; have r3 := h1.cell q3; have r4 := h1.cell s0; have r5 := h1.cell s1; have r6 := h1.cell s2; have r7 := h1.cell s3
                        have hcw := fun b o => Below.cell (p := ⟨b, o, none⟩) h1
                        go_simp; rfl
                      simp only [Act.put, List.setIfInBounds_toArray, List.set_cons_succ, List.set_cons_zero, List.nil_append, List.cons_append]
                      apply Run.valG (wanted_none rfl _)
                      · intro w1 h1 hk
                        have r0 := h1.cell q0; have r1 := h1.cell q1; have r2 := h1.cell q2; have r3 := h1.cell q3; have r4 := h1.cell s0; have r5 := h1.cell s1; have r6 := h1.cell s2; have r7 := h1.cell s3
                        have hcw := fun b o => Below.cell (p := ⟨b, o, none⟩) h1
                        go_simp; rfl
                      simp only [Act.put, List.setIfInBounds_toArray, List.set_cons_succ, List.set_cons_zero, List.nil_append, List.cons_append]
                      apply Run.valG (wanted_none rfl _)
                      · intro w1 h1 hk
                        have r0 := h1.cell q0; have r1 := h1.cell q1; have r2 := h1.cell q2; have r3 := h1.cell q3; have r4 := h1.cell s0; have r5 := h1.cell s1; have r6 := h1.cell s2; have r7 := h1.cell s3
                        have hcw := fun b o => Below.cell (p := ⟨b, o, none⟩) h1
                        go_simp; rfl
                      simp only [Act.put, List.setIfInBounds_toArray, List.set_cons_succ, List.set_cons_zero, List.nil_append, List.cons_append]
                      apply Run.valG (by go_simp)
                      · intro w1 h1 hk
                        have r0 := h1.cell q0; have r1 := h1.cell q1; have r2 := h1.cell q2; have r3 := h1.cell q3; have r4 := h1.cell s0; have r5 := h1.cell s1; have r6 := h1.cell s2; have r7 := h1.cell s3
                        have hcw := fun b o => Below.cell (p := ⟨b, o, none⟩) h1
                        go_simp; rfl
                      simp only [Act.put, List.setIfInBounds_toArray, List.set_cons_succ, List.set_cons_zero, List.nil_append, List.cons_append]
                      apply Run.valG (by go_simp)
                      · intro w1 h1 hk
                        have r0 := h1.cell q0; have r1 := h1.cell q1; have r2 := h1.cell q2; have r3 := h1.cell q3; have r4 := h1.cell s0; have r5 := h1.cell s1; have r6 := h1.cell s2; have r7 := h1.cell s3
                        have hcw := fun b o => Below.cell (p := ⟨b, o, none⟩) h1
                        go_simp; rfl
                      simp only [Act.put, List.setIfInBounds_toArray, List.set_cons_succ, List.set_cons_zero, List.nil_append, List.cons_append]
                      apply Run.valG (by go_simp)
                      · intro w1 h1 hk
                        have r0 := h1.cell q0; have r1 := h1.cell q1; have r2 := h1.cell q2; have r3 := h1.cell q3; have r4 := h1.cell s0; have r5 := h1.cell s1; have r6 := h1.cell s2; have r7 := h1.cell s3
                        have hcw := fun b o => Below.cell (p := ⟨b, o, none⟩) h1
                        go_simp; rfl
                      simp only [Act.put, List.setIfInBounds_toArray, List.set_cons_succ, List.set_cons_zero, List.nil_append, List.cons_append]
                      apply Run.valG (by go_simp)
                      · intro w1 h1 hk
                        have r0 := h1.cell q0; have r1 := h1.cell q1; have r2 := h1.cell q2; have r3 := h1.cell q3; have r4 := h1.cell s0; have r5 := h1.cell s1; have r6 := h1.cell s2; have r7 := h1.cell s3
                        have hcw := fun b o => Below.cell (p := ⟨b, o, none⟩) h1
                        go_simp; rfl
                      simp only [Act.put, List.setIfInBounds_toArray, List.set_cons_succ, List.set_cons_zero, List.nil_append, List.cons_append]
                      apply Run.valG (by go_simp)
                      · intro w1 h1 hk
                        have r0 := h1.cell q0; have r1 := h1.cell q1; have r2 := h1.cell q2; have r3 := h1.cell q3; have r4 := h1.cell s0; have r5 := h1.cell s1; have r6 := h1.cell s2; have r7 := h1.cell s3
                        have hcw := fun b o => Below.cell (p := ⟨b, o, none⟩) h1
                        go_simp; rfl
                      simp only [Act.put, List.setIfInBounds_toArray, List.set_cons_succ, List.set_cons_zero, List.nil_append, List.cons_append]
                      apply Run.valG (by go_simp)
                      · intro w1 h1 hk
                        have r0 := h1.cell q0; have r1 := h1.cell q1; have r2 := h1.cell q2; have r3 := h1.cell q3; have r4 := h1.cell s0; have r5 := h1.cell s1; have r6 := h1.cell s2; have r7 := h1.cell s3
                        have hcw := fun b o => Below.cell (p := ⟨b, o, none⟩) h1
                        go_simp; rfl
                      simp only [Act.put, List.setIfInBounds_toArray, List.set_cons_succ, List.set_cons_zero, List.nil_append, List.cons_append]
                      apply Run.valG (wanted_none rfl _)
                      · intro w1 h1 hk
                        have r0 := h1.cell q0; have r1 := h1.cell q1; have r2 := h1.cell q2; have r3 := h1.cell q3; have r4 := h1.cell s0; have r5 := h1.cell s1; have r6 := h1.cell s2; have r7 := h1.cell s3
                        have hcw := fun b o => Below.cell (p := ⟨b, o, none⟩) h1
                        go_simp; rfl
                      simp only [Act.put, List.setIfInBounds_toArray, List.set_cons_succ, List.set_cons_zero, List.nil_append, List.cons_append]
                      apply Run.done
                      intro w2 h2 hk
                      clear hk
                      have F9 := Lib.hid (FZ.out.trans ((Fut.drew _).trans h2))
                      clear h2 q0 q1 q2 q3 s0 s1 s2 s3
                      go_wp2
                      go_roundw
                      case rel => exact ⟨m + 1, q + 1, by omega, by go_num, by go_num, hq2, F9⟩
                      case measure => simp [intOf] <;> omega
                    · have hkd : kd = 4 := by rw [hke, if_neg hn]; rfl
                      subst hkd
                      have n1 : decide (l.k = 2) = false := decide_eq_false hn
                      rw [n1] at n0
                      have t0 := cell_at hrb 2 (.int .i8 0) rfl
                      have u0 := free_at hrb 2
                      obtain ⟨y0, hy0⟩ : ∃ W, w6.setCell ⟨wC.heap.size, 2, none⟩ (.int .i8 1) = W := ⟨_, rfl⟩
                      have g0 := set_block (j := 2) (v := .int .i8 1) hrb
                      have ff0 := f6.set (p := ⟨wC.heap.size, 2, none⟩) (Nat.le_refl _) (.int .i8 1)
                      rw [hy0] at g0 ff0
                      replace hy0 := Lib.hid hy0
                      have t1 := cell_at g0 2 (.int .i8 1) rfl
                      have u1 := free_at g0 2
                      obtain ⟨y1, hy1⟩ : ∃ W, y0.setCell ⟨wC.heap.size, 2, none⟩ (.int .i8 4) = W := ⟨_, rfl⟩
                      have g1 := set_block (j := 2) (v := .int .i8 4) g0
                      have ff1 := ff0.set (p := ⟨wC.heap.size, 2, none⟩) (Nat.le_refl _) (.int .i8 4)
                      rw [hy1] at g1 ff1
                      replace hy1 := Lib.hid hy1
                      have FM := ff1
                      have FN := ff1
                      have n2 := FM.cell n0
                      have hi3 := infoKd
                      have q0 := cell_at g1 0 (.string r.p) rfl
                      have s0 := FN.cell (show wC.cell? ⟨be, oe + q * 4, none⟩ = some (.string r.p) from hce 0 _ rfl)
                      have q1 := cell_at g1 1 (.string l.p) rfl
                      have s1 := FN.cell (show wC.cell? ⟨be, oe + q * 4 + 1, none⟩ = some (.string l.p) from hce 1 _ rfl)
                      have q2 := cell_at g1 2 (.int .i8 4) rfl
                      have s2 := FN.cell (show wC.cell? ⟨be, oe + q * 4 + 2, none⟩ = some (.int .i8 4) from hce 2 _ rfl)
                      have q3 := cell_at g1 3 (.int .i64 (k : Nat)) rfl
                      have s3 := FN.cell (show wC.cell? ⟨be, oe + q * 4 + 3, none⟩ = some (.int .i64 (k : Nat)) from hce 3 _ rfl)
                      have hw6h := Lib.hid hw6
                      have hca9 := Lib.hid hca
                      have FZ := Lib.hid (hFm.out.trans FN)
                      clear hw6 hca hce n0 n1 hke FM FN g0 ff0 g1 ff1 f6 hrb hea hle hl HEv HAv5 HNv hn
                      go_wp2_with (first | (show wpList _ _ _ (Oper.mk _ (Op.load _ _) _ _ _ _ :: Oper.mk _ (Op.alloc _) _ _ _ _ :: _) _ _; refine wpList_rangeBox [.string r.p, .string l.p, .int .i8 0, .int .i64 (k : Nat)] rfl rfl rfl rfl rfl rfl rfl hca9.out Try.underlying47 infoEdZ' rfl hone rfl rfl hw6h.out ?_) | (show wpList _ _ _ (Oper.mk _ (Op.store _ _ _) _ _ _ _ :: _) _ _; refine wpList_store_1 (wanted_none rfl _) _ _ rfl rfl rfl hi3 rfl t0 u0 hy0.out ?_) | (show wpList _ _ _ (Oper.mk _ (Op.store _ _ _) _ _ _ _ :: _) _ _; refine wpList_store_1 (wanted_none rfl _) _ _ rfl rfl rfl hi3 rfl t1 u1 hy1.out ?_))
                      clear n2 t0 u0 t1 u1
                      refine wp_graph 12 [.d, .d, .d, .d, .d, .d, .d, .d, .d, .d, .d, .d] (by kernel_rfl) (by kernel_rfl) (by kernel_rfl) ?_
                      simp only [List.take_succ_cons, List.take_zero, List.drop_succ_cons, List.drop_zero, Exs]
                      iterate 12 apply Exists.intro
                      apply Run.valG (wanted_none rfl _)
                      · intro w1 h1 hk
                        have r0 := h1.cell q0; have r1 := h1.cell q1; have r2 := h1.cell q2; have r3 := h1.cell q3; have r4 := h1.cell s0; have r5 := h1.cell s1; have r6 := h1.cell s2; have r7 := h1.cell s3
                        have hcw := fun b o => Below.cell (p := ⟨b, o, none⟩) h1
                        go_simp; rfl
                      simp only [Act.put, List.setIfInBounds_toArray, List.set_cons_succ, List.set_cons_zero, List.nil_append, List.cons_append]
                      apply Run.valG (wanted_none rfl _)
                      · intro w1 h1 hk
                        have r0 := h1.cell q0; have r1 := h1.cell q1; have r2 := h1.cell q2; have r3 := h1.cell q3; have r4 := h1.cell s0; have r5 := h1.cell s1; have r6 := h1.cell s2; have r7 := h1.cell s3
                        have hcw := fun b o => Below.cell (p := ⟨b, o, none⟩) h1
                        go_simp; rfl
                      simp only [Act.put, List.setIfInBounds_toArray, List.set_cons_succ, List.set_cons_zero, List.nil_append, List.cons_append]
                      apply Run.valG (wanted_none rfl _)
                      · intro w1 h1 hk
                        have r0 := h1.cell q0; have r1 := h1.cell q1; have r2 := h1.cell q2; have r3 := h1.cell q3; have r4 := h1.cell s0; have r5 := h1.cell s1; have r6 := h1.cell s2; have r7 := h1.cell s3
                        have hcw := fun b o => Below.cell (p := ⟨b, o, none⟩) h1
                        go_simp; rfl
                      simp only [Act.put, List.setIfInBounds_toArray, List.set_cons_succ, List.set_cons_zero, List.nil_append, List.cons_append]
                      apply Run.valG (wanted_none rfl _)
                      · intro w1 h1 hk
                        have r0 := h1.cell q0; have r1 := h1.cell q1; have r2 := h1.cell q2; have r3 := h1.cell q3; have r4 := h1.cell s0; have r5 := h1.cell s1; have r6 := h1.cell s2; have r7 := h1.cell s3
                        have hcw := fun b o => Below.cell (p := ⟨b, o, none⟩) h1
                        go_simp; rfl
                      simp only [Act.put, List.setIfInBounds_toArray, List.set_cons_succ, List.set_cons_zero, List.nil_append, List.cons_append]
                      apply Run.valG (wanted_none rfl _)
                      · intro w1 h1 hk
                        have r0 := h1.cell q0; have r1 := h1.cell q1; have r2 := h1.cell q2; have r3 := h1.cell q3; have r4 := h1.cell s0; have r5 := h1.cell s1; have r6 := h1.cell s2; have r7 := h1.cell s3
                        have hcw := fun b o => Below.cell (p := ⟨b, o, none⟩) h1
                        go_simp; rfl
                      simp only [Act.put, List.setIfInBounds_toArray, List.set_cons_succ, List.set_cons_zero, List.nil_append, List.cons_append]
                      apply Run.valG (by go_simp)
                      · intro w1 h1 hk
                        have r0 := h1.cell q0; have r1 := h1.cell q1; have r2 := h1.cell q2; have r3 := h1.cell q3; have r4 := h1.cell s0; have r5 := h1.cell s1; have r6 := h1.cell s2; have r7 := h1.cell s3
                        have hcw := fun b o => Below.cell (p := ⟨b, o, none⟩) h1
                        go_simp; rfl
                      simp only [Act.put, List.setIfInBounds_toArray, List.set_cons_succ, List.set_cons_zero, List.nil_append, List.cons_append]
                      apply Run.valG (by go_simp)
                      · intro w1 h1 hk
                        have r0 := h1.cell q0; have r1 := h1.cell q1; have r2 := h1.cell q2; have r3 := h1.cell q3; have r4 := h1.cell s0; have r5 := h1.cell s1; have r6 := h1.cell s2; have r7 := h1.cell s3
                        have hcw := fun b o => Below.cell (p := ⟨b, o, none⟩) h1
                        go_simp; rfl
                      simp only [Act.put, List.setIfInBounds_toArray, List.set_cons_succ, List.set_cons_zero, List.nil_append, List.cons_append]
                      apply Run.valG (by go_simp)
                      · intro w1 h1 hk
                        have r0 := h1.cell q0; have r1 := h1.cell q1; have r2 := h1.cell q2; have r3 := h1.cell q3; have r4 := h1.cell s0; have r5 := h1.cell s1; have r6 := h1.cell s2; have r7 := h1.cell s3
                        have hcw := fun b o => Below.cell (p := ⟨b, o, none⟩) h1
                        go_simp; rfl
                      simp only [Act.put, List.setIfInBounds_toArray, List.set_cons_succ, List.set_cons_zero, List.nil_append, List.cons_append]
                      apply Run.valG (by go_simp)
                      · intro w1 h1 hk
                        have r0 := h1.cell q0; have r1 := h1.cell q1; have r2 := h1.cell q2; have r3 := h1.cell q3; have r4 := h1.cell s0; have r5 := h1.cell s1; have r6 := h1.cell s2; have r7 := h1.cell s3
                        have hcw := fun b o => Below.cell (p := ⟨b, o, none⟩) h1
                        go_simp; rfl
                      simp only [Act.put, List.setIfInBounds_toArray, List.set_cons_succ, List.set_cons_zero, List.nil_append, List.cons_append]
                      apply Run.valG (by go_simp)
                      · intro w1 h1 hk
                        have r0 := h1.cell q0; have r1 := h1.cell q1; have r2 := h1.cell q2; have r3 := h1.cell q3; have r4 := h1.cell s0; have r5 := h1.cell s1; have r6 := h1.cell s2; have r7 := h1.cell s3
                        have hcw := fun b o => Below.cell (p := ⟨b, o, none⟩) h1
                        go_simp; rfl
                      simp only [Act.put, List.setIfInBounds_toArray, List.set_cons_succ, List.set_cons_zero, List.nil_append, List.cons_append]
                      apply Run.valG (by go_simp)
                      · intro w1 h1 hk
                        have r0 := h1.cell q0; have r1 := h1.cell q1; have r2 := h1.cell q2; have r3 := h1.cell q3; have r4 := h1.cell s0; have r5 := h1.cell s1; have r6 := h1.cell s2; have r7 := h1.cell s3
                        have hcw := fun b o => Below.cell (p := ⟨b, o, none⟩) h1
                        go_simp; rfl
                      simp only [Act.put, List.setIfInBounds_toArray, List.set_cons_succ, List.set_cons_zero, List.nil_append, List.cons_append]
                      apply Run.valG (wanted_none rfl _)
                      · intro w1 h1 hk
                        have r0 := h1.cell q0; have r1 := h1.cell q1; have r2 := h1.cell q2; have r3 := h1.cell q3; have r4 := h1.cell s0; have r5 := h1.cell s1; have r6 := h1.cell s2; have r7 := h1.cell s3
                        have hcw := fun b o => Below.cell (p := ⟨b, o, none⟩) h1
                        go_simp; rfl
                      simp only [Act.put, List.setIfInBounds_toArray, List.set_cons_succ, List.set_cons_zero, List.nil_append, List.cons_append]
                      apply Run.done
                      intro w2 h2 hk
                      clear hk
                      have F9 := Lib.hid (FZ.out.trans ((Fut.drew _).trans h2))
                      clear h2 q0 q1 q2 q3 s0 s1 s2 s3
                      go_wp2
                      go_roundw
                      case rel => exact ⟨m + 1, q + 1, by omega, by go_num, by go_num, hq2, F9⟩
                      case measure => simp [intOf] <;> omega
                  · by_cases hn : l.k = 2
                    · have hkd : kd = 2 := by rw [hke, if_pos hn]
                      subst hkd
                      have n1 : decide (l.k = 2) = true := decide_eq_true hn
                      rw [n1] at n0
                      have t0 := cell_at hrb 2 (.int .i8 0) rfl
                      have u0 := free_at hrb 2
                      obtain ⟨y0, hy0⟩ : ∃ W, w6.setCell ⟨wC.heap.size, 2, none⟩ (.int .i8 1) = W := ⟨_, rfl⟩
                      have g0 := set_block (j := 2) (v := .int .i8 1) hrb
                      have ff0 := f6.set (p := ⟨wC.heap.size, 2, none⟩) (Nat.le_refl _) (.int .i8 1)
                      rw [hy0] at g0 ff0
                      replace hy0 := Lib.hid hy0
                      have t1 := cell_at g0 2 (.int .i8 1) rfl
                      have u1 := free_at g0 2
                      obtain ⟨y1, hy1⟩ : ∃ W, y0.setCell ⟨wC.heap.size, 2, none⟩ (.int .i8 4) = W := ⟨_, rfl⟩
                      have g1 := set_block (j := 2) (v := .int .i8 4) g0
                      have ff1 := ff0.set (p := ⟨wC.heap.size, 2, none⟩) (Nat.le_refl _) (.int .i8 4)
                      rw [hy1] at g1 ff1
                      replace hy1 := Lib.hid hy1
                      have t2 := cell_at g1 2 (.int .i8 4) rfl
                      have u2 := free_at g1 2
                      obtain ⟨y2, hy2⟩ : ∃ W, y1.setCell ⟨wC.heap.size, 2, none⟩ (.int .i8 3) = W := ⟨_, rfl⟩
                      have g2 := set_block (j := 2) (v := .int .i8 3) g1
                      have ff2 := ff1.set (p := ⟨wC.heap.size, 2, none⟩) (Nat.le_refl _) (.int .i8 3)
                      rw [hy2] at g2 ff2
                      replace hy2 := Lib.hid hy2
                      have FM := ff2
                      have t3 := cell_at g2 2 (.int .i8 3) rfl
                      have u3 := free_at g2 2
                      obtain ⟨y3, hy3⟩ : ∃ W, y2.setCell ⟨wC.heap.size, 2, none⟩ (.int .i8 2) = W := ⟨_, rfl⟩
                      have g3 := set_block (j := 2) (v := .int .i8 2) g2
                      have ff3 := ff2.set (p := ⟨wC.heap.size, 2, none⟩) (Nat.le_refl _) (.int .i8 2)
                      rw [hy3] at g3 ff3
                      replace hy3 := Lib.hid hy3
                      have FN := ff3
                      have n2 := FM.cell n0
                      have hi3 := infoKd
                      have q0 := cell_at g3 0 (.string r.p) rfl
                      have s0 := FN.cell (show wC.cell? ⟨be, oe + q * 4, none⟩ = some (.string r.p) from hce 0 _ rfl)
                      have q1 := cell_at g3 1 (.string l.p) rfl
                      have s1 := FN.cell (show wC.cell? ⟨be, oe + q * 4 + 1, none⟩ = some (.string l.p) from hce 1 _ rfl)
                      have q2 := cell_at g3 2 (.int .i8 2) rfl
                      have s2 := FN.cell (show wC.cell? ⟨be, oe + q * 4 + 2, none⟩ = some (.int .i8 2) from hce 2 _ rfl)
                      have q3 := cell_at g3 3 (.int .i64 (k : Nat)) rfl
                      have s3 := FN.cell (show wC.cell? ⟨be, oe + q * 4 + 3, none⟩ = some (.int .i64 (k : Nat)) from hce 3 _ rfl)
                      have hw6h := Lib.hid hw6
                      have hca9 := Lib.hid hca
                      have FZ := Lib.hid (hFm.out.trans FN)
                      clear hw6 hca hce n0 n1 hke FM FN g0 ff0 g1 ff1 g2 ff2 g3 ff3 f6 hrb hea hle hl HEv HAv5 HNv hn
                      go_wp2_with (first | (show wpList _ _ _ (Oper.mk _ (Op.load _ _) _ _ _ _ :: Oper.mk _ (Op.alloc _) _ _ _ _ :: _) _ _; refine wpList_rangeBox [.string r.p, .string l.p, .int .i8 0, .int .i64 (k : Nat)] rfl rfl rfl rfl rfl rfl rfl hca9.out Try.underlying47 infoEdZ' rfl hone rfl rfl hw6h.out ?_) | (show wpList _ _ _ (Oper.mk _ (Op.store _ _ _) _ _ _ _ :: _) _ _; refine wpList_store_1 (wanted_none rfl _) _ _ rfl rfl rfl hi3 rfl t0 u0 hy0.out ?_) | (show wpList _ _ _ (Oper.mk _ (Op.store _ _ _) _ _ _ _ :: _) _ _; refine wpList_store_1 (wanted_none rfl _) _ _ rfl rfl rfl hi3 rfl t1 u1 hy1.out ?_) | (show wpList _ _ _ (Oper.mk _ (Op.store _ _ _) _ _ _ _ :: _) _ _; refine wpList_store_1 (wanted_none rfl _) _ _ rfl rfl rfl hi3 rfl t2 u2 hy2.out ?_) | (show wpList _ _ _ (Oper.mk _ (Op.store _ _ _) _ _ _ _ :: _) _ _; refine wpList_store_1 (wanted_none rfl _) _ _ rfl rfl rfl hi3 rfl t3 u3 hy3.out ?_))
                      clear n2 t0 u0 t1 u1 t2 u2 t3 u3
                      refine wp_graph 12 [.d, .d, .d, .d, .d, .d, .d, .d, .d, .d, .d, .d] (by kernel_rfl) (by kernel_rfl) (by kernel_rfl) ?_
                      simp only [List.take_succ_cons, List.take_zero, List.drop_succ_cons, List.drop_zero, Exs]
                      iterate 12 apply Exists.intro
                      apply Run.valG (wanted_none rfl _)
                      · intro w1 h1 hk
                        have r0 := h1.cell q0; have r1 := h1.cell q1; have r2 := h1.cell q2; have r3 := h1.cell q3; have r4 := h1.cell s0; have r5 := h1.cell s1; have r6 := h1.cell s2; have r7 := h1.cell s3
                        have hcw := fun b o => Below.cell (p := ⟨b, o, none⟩) h1
                        go_simp; rfl
                      simp only [Act.put, List.setIfInBounds_toArray, List.set_cons_succ, List.set_cons_zero, List.nil_append, List.cons_append]
                      apply Run.valG (wanted_none rfl _)
                      · intro w1 h1 hk
                        have r0 := h1.cell q0; have r1 := h1.cell q1; have r2 := h1.cell q2; have r3 := h1.cell q3; have r4 := h1.cell s0; have r5 := h1.cell s1; have r6 := h1.cell s2; have r7 := h1.cell s3
                        have hcw := fun b o => Below.cell (p := ⟨b, o, none⟩) h1
                        go_simp; rfl
                      simp only [Act.put, List.setIfInBounds_toArray, List.set_cons_succ, List.set_cons_zero, List.nil_append, List.cons_append]
                      apply Run.valG (wanted_none rfl _)
                      · intro w1 h1 hk
                        have r0 := h1.cell q0; have r1 := h1.cell q1; have r2 := h1.cell q2; have r3 := h1.cell q3; have r4 := h1.cell s0; have r5 := h1.cell s1; have r6 := h1.cell s2; have r7 := h1.cell s3
                        have hcw := fun b o => Below.cell (p := ⟨b, o, none⟩) h1
                        go_simp; rfl
                      simp only [Act.put, List.setIfInBounds_toArray, List.set_cons_succ, List.set_cons_zero, List.nil_append, List.cons_append]
                      apply Run.valG (wanted_none rfl _)
                      · intro w1 h1 hk
                        have r0 := h1.cell q0; have r1 := h1.cell q1; have r2 := h1.cell q2; have r3 := h1.cell q3; have r4 := h1.cell s0; have r5 := h1.cell s1; have r6 := h1.cell s2; have r7 := h1.cell s3
                        have hcw := fun b o => Below.cell (p := ⟨b, o, none⟩) h1
                        go_simp; rfl
                      simp only [Act.put, List.setIfInBounds_toArray, List.set_cons_succ, List.set_cons_zero, List.nil_append, List.cons_append]
                      apply Run.valG (wanted_none rfl _)
                      · intro w1 h1 hk
                        have r0 := h1.cell q0; have r1 := h1.cell q1; have r2 := h1.cell q2; have r3 := h1.cell q3; have r4 := h1.cell s0; have r5 := h1.cell s1; have r6 := h1.cell s2; have r7 := h1.cell s3
                        have hcw := fun b o => Below.cell (p := ⟨b, o, none⟩) h1
                        go_simp; rfl
                      simp only [Act.put, List.setIfInBounds_toArray, List.set_cons_succ, List.set_cons_zero, List.nil_append, List.cons_append]
                      apply Run.valG (by go_simp)
                      · intro w1 h1 hk
                        have r0 := h1.cell q0; have r1 := h1.cell q1; have r2 := h1.cell q2; have r3 := h1.cell q3; have r4 := h1.cell s0; have r5 := h1.cell s1; have r6 := h1.cell s2; have r7 := h1.cell s3
                        have hcw := fun b o => Below.cell (p := ⟨b, o, none⟩) h1
                        go_simp; rfl
                      simp only [Act.put, List.setIfInBounds_toArray, List.set_cons_succ, List.set_cons_zero, List.nil_append, List.cons_append]
                      apply Run.valG (by go_simp)
                      · intro w1 h1 hk
                        have r0 := h1.cell q0; have r1 := h1.cell q1; have r2 := h1.cell q2; have r3 := h1.cell q3; have r4 := h1.cell s0; have r5 := h1.cell s1; have r6 := h1.cell s2; have r7 := h1.cell s3
                        have hcw := fun b o => Below.cell (p := ⟨b, o, none⟩) h1
                        go_simp; rfl
                      simp only [Act.put, List.setIfInBounds_toArray, List.set_cons_succ, List.set_cons_zero, List.nil_append, List.cons_append]
                      apply Run.valG (by go_simp)
                      · intro w1 h1 hk
                        have r0 := h1.cell q0; have r1 := h1.cell q1; have r2 := h1.cell q2; have r3 := h1.cell q3; have r4 := h1.cell s0; have r5 := h1.cell s1; have r6 := h1.cell s2; have r7 := h1.cell s3
                        have hcw := fun b o => Below.cell (p := ⟨b, o, none⟩) h1
                        go_simp; rfl
                      simp only [Act.put, List.setIfInBounds_toArray, List.set_cons_succ, List.set_cons_zero, List.nil_append, List.cons_append]
                      apply Run.valG (by go_simp)
                      · intro w1 h1 hk
                        have r0 := h1.cell q0; have r1 := h1.cell q1; have r2 := h1.cell q2; have r3 := h1.cell q3; have r4 := h1.cell s0; have r5 := h1.cell s1; have r6 := h1.cell s2; have r7 := h1.cell s3
                        have hcw := fun b o => Below.cell (p := ⟨b, o, none⟩) h1
                        go_simp; rfl
                      simp only [Act.put, List.setIfInBounds_toArray, List.set_cons_succ, List.set_cons_zero, List.nil_append, List.cons_append]
                      apply Run.valG (by go_simp)
                      · intro w1 h1 hk
                        have r0 := h1.cell q0; have r1 := h1.cell q1; have r2 := h1.cell q2; have r3 := h1.cell q3; have r4 := h1.cell s0; have r5 := h1.cell s1; have r6 := h1.cell s2; have r7 := h1.cell s3
                        have hcw := fun b o => Below.cell (p := ⟨b, o, none⟩) h1
                        go_simp; rfl
                      simp only [Act.put, List.setIfInBounds_toArray, List.set_cons_succ, List.set_cons_zero, List.nil_append, List.cons_append]
                      apply Run.valG (by go_simp)
                      · intro w1 h1 hk
                        have r0 := h1.cell q0; have r1 := h1.cell q1; have r2 := h1.cell q2; have r3 := h1.cell q3; have r4 := h1.cell s0; have r5 := h1.cell s1; have r6 := h1.cell s2; have r7 := h1.cell s3
                        have hcw := fun b o => Below.cell (p := ⟨b, o, none⟩) h1
                        go_simp; rfl
                      simp only [Act.put, List.setIfInBounds_toArray, List.set_cons_succ, List.set_cons_zero, List.nil_append, List.cons_append]
                      apply Run.valG (wanted_none rfl _)
                      · intro w1 h1 hk
                        have r0 := h1.cell q0; have r1 := h1.cell q1; have r2 := h1.cell q2; have r3 := h1.cell q3; have r4 := h1.cell s0; have r5 := h1.cell s1; have r6 := h1.cell s2; have r7 := h1.cell s3
                        have hcw := fun b o => Below.cell (p := ⟨b, o, none⟩) h1
                        go_simp; rfl
                      simp only [Act.put, List.setIfInBounds_toArray, List.set_cons_succ, List.set_cons_zero, List.nil_append, List.cons_append]
                      apply Run.done
                      intro w2 h2 hk
                      clear hk
                      have F9 := Lib.hid (FZ.out.trans ((Fut.drew _).trans h2))
                      clear h2 q0 q1 q2 q3 s0 s1 s2 s3
                      go_wp2
                      go_roundw
                      case rel => exact ⟨m + 1, q + 1, by omega, by go_num, by go_num, hq2, F9⟩
                      case measure => simp [intOf] <;> omega
                    · have hkd : kd = 3 := by rw [hke, if_neg hn]; rfl
                      subst hkd
                      have n1 : decide (l.k = 2) = false := decide_eq_false hn
                      rw [n1] at n0
                      have t0 := cell_at hrb 2 (.int .i8 0) rfl
                      have u0 := free_at hrb 2
                      obtain ⟨y0, hy0⟩ : ∃ W, w6.setCell ⟨wC.heap.size, 2, none⟩ (.int .i8 1) = W := ⟨_, rfl⟩
                      have g0 := set_block (j := 2) (v := .int .i8 1) hrb
                      have ff0 := f6.set (p := ⟨wC.heap.size, 2, none⟩) (Nat.le_refl _) (.int .i8 1)
                      rw [hy0] at g0 ff0
                      replace hy0 := Lib.hid hy0
                      have t1 := cell_at g0 2 (.int .i8 1) rfl
                      have u1 := free_at g0 2
                      obtain ⟨y1, hy1⟩ : ∃ W, y0.setCell ⟨wC.heap.size, 2, none⟩ (.int .i8 4) = W := ⟨_, rfl⟩
                      have g1 := set_block (j := 2) (v := .int .i8 4) g0
                      have ff1 := ff0.set (p := ⟨wC.heap.size, 2, none⟩) (Nat.le_refl _) (.int .i8 4)
                      rw [hy1] at g1 ff1
                      replace hy1 := Lib.hid hy1
                      have t2 := cell_at g1 2 (.int .i8 4) rfl
                      have u2 := free_at g1 2
                      obtain ⟨y2, hy2⟩ : ∃ W, y1.setCell ⟨wC.heap.size, 2, none⟩ (.int .i8 3) = W := ⟨_, rfl⟩
                      have g2 := set_block (j := 2) (v := .int .i8 3) g1
                      have ff2 := ff1.set (p := ⟨wC.heap.size, 2, none⟩) (Nat.le_refl _) (.int .i8 3)
                      rw [hy2] at g2 ff2
                      replace hy2 := Lib.hid hy2
                      have FM := ff2
                      have FN := ff2
                      have n2 := FM.cell n0
                      have hi3 := infoKd
                      have q0 := cell_at g2 0 (.string r.p) rfl
                      have s0 := FN.cell (show wC.cell? ⟨be, oe + q * 4, none⟩ = some (.string r.p) from hce 0 _ rfl)
                      have q1 := cell_at g2 1 (.string l.p) rfl
                      have s1 := FN.cell (show wC.cell? ⟨be, oe + q * 4 + 1, none⟩ = some (.string l.p) from hce 1 _ rfl)
                      have q2 := cell_at g2 2 (.int .i8 3) rfl
                      have s2 := FN.cell (show wC.cell? ⟨be, oe + q * 4 + 2, none⟩ = some (.int .i8 3) from hce 2 _ rfl)
                      have q3 := cell_at g2 3 (.int .i64 (k : Nat)) rfl
                      have s3 := FN.cell (show wC.cell? ⟨be, oe + q * 4 + 3, none⟩ = some (.int .i64 (k : Nat)) from hce 3 _ rfl)
                      have hw6h := Lib.hid hw6
                      have hca9 := Lib.hid hca
                      have FZ := Lib.hid (hFm.out.trans FN)
                      clear hw6 hca hce n0 n1 hke FM FN g0 ff0 g1 ff1 g2 ff2 f6 hrb hea hle hl HEv HAv5 HNv hn
                      go_wp2_with (first | (show wpList _ _ _ (Oper.mk _ (Op.load _ _) _ _ _ _ :: Oper.mk _ (Op.alloc _) _ _ _ _ :: _) _ _; refine wpList_rangeBox [.string r.p, .string l.p, .int .i8 0, .int .i64 (k : Nat)] rfl rfl rfl rfl rfl rfl rfl hca9.out Try.underlying47 infoEdZ' rfl hone rfl rfl hw6h.out ?_) | (show wpList _ _ _ (Oper.mk _ (Op.store _ _ _) _ _ _ _ :: _) _ _; refine wpList_store_1 (wanted_none rfl _) _ _ rfl rfl rfl hi3 rfl t0 u0 hy0.out ?_) | (show wpList _ _ _ (Oper.mk _ (Op.store _ _ _) _ _ _ _ :: _) _ _; refine wpList_store_1 (wanted_none rfl _) _ _ rfl rfl rfl hi3 rfl t1 u1 hy1.out ?_) | (show wpList _ _ _ (Oper.mk _ (Op.store _ _ _) _ _ _ _ :: _) _ _; refine wpList_store_1 (wanted_none rfl _) _ _ rfl rfl rfl hi3 rfl t2 u2 hy2.out ?_))
                      clear n2 t0 u0 t1 u1 t2 u2
                      refine wp_graph 12 [.d, .d, .d, .d, .d, .d, .d, .d, .d, .d, .d, .d] (by kernel_rfl) (by kernel_rfl) (by kernel_rfl) ?_
                      simp only [List.take_succ_cons, List.take_zero, List.drop_succ_cons, List.drop_zero, Exs]
                      iterate 12 apply Exists.intro
                      apply Run.valG (wanted_none rfl _)
                      · intro w1 h1 hk
                        have r0 := h1.cell q0; have r1 := h1.cell q1; have r2 := h1.cell q2; have r3 := h1.cell q3; have r4 := h1.cell s0; have r5 := h1.cell s1; have r6 := h1.cell s2; have r7 := h1.cell s3
                        have hcw := fun b o => Below.cell (p := ⟨b, o, none⟩) h1
                        go_simp; rfl
                      simp only [Act.put, List.setIfInBounds_toArray, List.set_cons_succ, List.set_cons_zero, List.nil_append, List.cons_append]
                      apply Run.valG (wanted_none rfl _)
                      · intro w1 h1 hk
                        have r0 := h1.cell q0; have r1 := h1.cell q1; have r2 := h1.cell q2; have r3 := h1.cell q3; have r4 := h1.cell s0; have r5 := h1.cell s1; have r6 := h1.cell s2; have r7 := h1.cell s3
                        have hcw := fun b o => Below.cell (p := ⟨b, o, none⟩) h1
                        go_simp; rfl
                      simp only [Act.put, List.setIfInBounds_toArray, List.set_cons_succ, List.set_cons_zero, List.nil_append, List.cons_append]
                      apply Run.valG (wanted_none rfl _)
                      · intro w1 h1 hk
                        have r0 := h1.cell q0; have r1 := h1.cell q1; have r2 := h1.cell q2; have r3 := h1.cell q3; have r4 := h1.cell s0; have r5 := h1.cell s1; have r6 := h1.cell s2; have r7 := h1.cell s3
                        have hcw := fun b o => Below.cell (p := ⟨b, o, none⟩) h1
                        go_simp; rfl
                      simp only [Act.put, List.setIfInBounds_toArray, List.set_cons_succ, List.set_cons_zero, List.nil_append, List.cons_append]
                      apply Run.valG (wanted_none rfl _)
                      · intro w1 h1 hk
                        have r0 := h1.cell q0; have r1 := h1.cell q1; have r2 := h1.cell q2; have r3 := h1.cell q3; have r4 := h1.cell s0; have r5 := h1.cell s1; have r6 := h1.cell s2; have r7 := h1.cell s3
                        have hcw := fun b o => Below.cell (p := ⟨b, o, none⟩) h1
                        go_simp; rfl
                      simp only [Act.put, List.setIfInBounds_toArray, List.set_cons_succ, List.set_cons_zero, List.nil_append, List.cons_append]
                      apply Run.valG (wanted_none rfl _)
                      · intro w1 h1 hk
                        have r0 := h1.cell q0; have r1 := h1.cell q1; have r2 := h1.cell q2; have r3 := h1.cell q3; have r4 := h1.cell s0; have r5 := h1.cell s1; have r6 := h1.cell s2; have r7 := h1.cell s3
                        have hcw := fun b o => Below.cell (p := ⟨b, o, none⟩) h1
                        go_simp; rfl
                      simp only [Act.put, List.setIfInBounds_toArray, List.set_cons_succ, List.set_cons_zero, List.nil_append, List.cons_append]
                      apply Run.valG (by go_simp)
                      · intro w1 h1 hk
                        have r0 := h1.cell q0; have r1 := h1.cell q1; have r2 := h1.cell q2; have r3 := h1.cell q3; have r4 := h1.cell s0; have r5 := h1.cell s1; have r6 := h1.cell s2; have r7 := h1.cell s3
                        have hcw := fun b o => Below.cell (p := ⟨b, o, none⟩) h1
                        go_simp; rfl
                      simp only [Act.put, List.setIfInBounds_toArray, List.set_cons_succ, List.set_cons_zero, List.nil_append, List.cons_append]
                      apply Run.valG (by go_simp)
                      · intro w1 h1 hk
                        have r0 := h1.cell q0; have r1 := h1.cell q1; have r2 := h1.cell q2; have r3 := h1.cell q3; have r4 := h1.cell s0; have r5 := h1.cell s1; have r6 := h1.cell s2; have r7 := h1.cell s3
                        have hcw := fun b o => Below.cell (p := ⟨b, o, none⟩) h1
                        go_simp; rfl
                      simp only [Act.put, List.setIfInBounds_toArray, List.set_cons_succ, List.set_cons_zero, List.nil_append, List.cons_append]
                      apply Run.valG (by go_simp)
                      · intro w1 h1 hk
                        have r0 := h1.cell q0; have r1 := h1.cell q1; have r2 := h1.cell q2; have r3 := h1.cell q3; have r4 := h1.cell s0; have r5 := h1.cell s1; have r6 := h1.cell s2; have r7 := h1.cell s3
                        have hcw := fun b o => Below.cell (p := ⟨b, o, none⟩) h1
                        go_simp; rfl
                      simp only [Act.put, List.setIfInBounds_toArray, List.set_cons_succ, List.set_cons_zero, List.nil_append, List.cons_append]
                      apply Run.valG (by go_simp)
                      · intro w1 h1 hk
                        have r0 := h1.cell q0; have r1 := h1.cell q1; have r2 := h1.cell q2; have r3 := h1.cell q3; have r4 := h1.cell s0; have r5 := h1.cell s1; have r6 := h1.cell s2; have r7 := h1.cell s3
                        have hcw := fun b o => Below.cell (p := ⟨b, o, none⟩) h1
                        go_simp; rfl
                      simp only [Act.put, List.setIfInBounds_toArray, List.set_cons_succ, List.set_cons_zero, List.nil_append, List.cons_append]
                      apply Run.valG (by go_simp)
                      · intro w1 h1 hk
                        have r0 := h1.cell q0; have r1 := h1.cell q1; have r2 := h1.cell q2; have r3 := h1.cell q3; have r4 := h1.cell s0; have r5 := h1.cell s1; have r6 := h1.cell s2; have r7 := h1.cell s3
                        have hcw := fun b o => Below.cell (p := ⟨b, o, none⟩) h1
                        go_simp; rfl
                      simp only [Act.put, List.setIfInBounds_toArray, List.set_cons_succ, List.set_cons_zero, List.nil_append, List.cons_append]
                      apply Run.valG (by go_simp)
                      · intro w1 h1 hk
                        have r0 := h1.cell q0; have r1 := h1.cell q1; have r2 := h1.cell q2; have r3 := h1.cell q3; have r4 := h1.cell s0; have r5 := h1.cell s1; have r6 := h1.cell s2; have r7 := h1.cell s3
                        have hcw := fun b o => Below.cell (p := ⟨b, o, none⟩) h1
                        go_simp; rfl
                      simp only [Act.put, List.setIfInBounds_toArray, List.set_cons_succ, List.set_cons_zero, List.nil_append, List.cons_append]
                      apply Run.valG (wanted_none rfl _)
                      · intro w1 h1 hk
                        have r0 := h1.cell q0; have r1 := h1.cell q1; have r2 := h1.cell q2; have r3 := h1.cell q3; have r4 := h1.cell s0; have r5 := h1.cell s1; have r6 := h1.cell s2; have r7 := h1.cell s3
                        have hcw := fun b o => Below.cell (p := ⟨b, o, none⟩) h1
                        go_simp; rfl
                      simp only [Act.put, List.setIfInBounds_toArray, List.set_cons_succ, List.set_cons_zero, List.nil_append, List.cons_append]
                      apply Run.done
                      intro w2 h2 hk
                      clear hk
                      have F9 := Lib.hid (FZ.out.trans ((Fut.drew _).trans h2))
                      clear h2 q0 q1 q2 q3 s0 s1 s2 s3
                      go_wp2
                      go_roundw
                      case rel => exact ⟨m + 1, q + 1, by omega, by go_num, by go_num, hq2, F9⟩
                      case measure => simp [intOf] <;> omega
                -- KINDS-END
              · obtain rfl : m = F.length := by omega
                rw [hq.out, ← hP1'.out]
                have hF9 := Lib.hid (F25.out.trans hFm.out)
                go_wp2
                go_roundw
                case rel => exact ⟨k + 1, by omega, by go_num, rfl, hF9⟩
                case measure => simp [intOf] <;> omega
      · obtain rfl : k = rs.length := by omega
        rw [List.take_length]
        have HLv := Lib.hid (lives9_any wA)
        have F3 := Lib.hid (F2.out.trans hF.out)
        generalize (edgesP rs).length = en at *
        clear HEv hF
        go_wp2_with fail
        refine HLv.out.mono ?_
        rintro e w4 ⟨rfl, f4⟩
        have F4 := F3.out.trans f4
        clear f4
        go_wp2
        go_ret
        exact ⟨rfl, F4⟩
  · have F1 := Lib.hid f1
    clear hb f1
    go_wp2
    go_ret
    exact ⟨rfl, F1.out⟩
end Go.Proofs.Ytcpphabehpbmlaa
