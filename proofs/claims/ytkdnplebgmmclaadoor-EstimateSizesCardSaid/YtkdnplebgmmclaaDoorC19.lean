/- RSize, RSizes -/
import Derived.Test.YtkdnplebgmmclaaDoorC18
/- Sizes: the document's, of one predicate. -/
namespace Go.Proofs.YtkdnplebgmmclaaDoor
open Go.RowKit
set_option linter.unusedSimpArgs false
set_option linter.unusedVariables false

/-- A value of a list of the call's own, as a tuple of its own. -/
def RCol (w : World) (cs : List Value) (t : List V) : Prop :=
  ∃ (b off cap : Nat) (z : V), t = [z] ∧ cs = [.slice (some ⟨b, off, none⟩) 1 cap] ∧ z.ok ∧ 1 ≤ cap ∧ cap ≤ maxLen ∧ (∃ arr, w.heap[b]? = some (.cells arr 52 (0, 0))) ∧
    w.cell? ⟨b, off, none⟩ = some (.int .i8 z.k) ∧ w.cell? ⟨b, off + 1, none⟩ = some (.int .i64 z.n) ∧ w.cell? ⟨b, off + 2, none⟩ = some (.string z.s)
theorem RCol.kept {w w' : World} {cs : List Value} {t : List V} (h : RCol w cs t) (hk : ∀ (b : Nat) (arr : Array Value), w.heap[b]? = some (.cells arr 52 (0, 0)) → w'.heap[b]? = w.heap[b]?) : RCol w' cs t := by
  obtain ⟨b, off, cap, z, h1, h2, h3, h4, h5, ⟨arr, h6⟩, h7, h8, h9⟩ := h
  have e := hk b arr h6
  refine ⟨b, off, cap, z, h1, h2, h3, h4, h5, ⟨arr, e.trans h6⟩, ?_, ?_, ?_⟩
  · exact (World.cell?_of_block e).trans h7
  · exact (World.cell?_of_block e).trans h8
  · exact (World.cell?_of_block e).trans h9
theorem RCol.stays : Stays RCol := fun w w' cs t hf h => h.kept fun b arr hb => (hf.block hb).trans hb.symm
theorem RCol.one : ∀ (w : World) cs x, RCol w cs x → ∀ u ∈ cs, u.oneCell' = true := fun w cs x ⟨b, off, cap, z, _, h, _⟩ u hu => by
  subst h
  simp only [List.mem_singleton] at hu
  subst hu; rfl
theorem RCol.keeps : Keeps 29 RCol := fun w w' row cs x h hg ht => h.kept fun b arr hb => hg.block b (Array.getElem?_eq_some_iff.1 hb).1 fun e => by
  obtain ⟨arr', h'⟩ := ht b e.symm
  rw [hb] at h'
  injection h' with h'
  injection h' with _ h9
  exact absurd h9 (by decide)
theorem RCol.rt {w : World} {cs : List Value} {t : List V} (h : RCol w cs t) : RT w cs t := by
  obtain ⟨b, off, cap, z, rfl, rfl, h3, h4, h5, h6, h7, h8, h9⟩ := h
  refine ⟨_, rfl, _, cap, rfl, h4, h5, fun i x hx => ?_⟩
  have hi : i = 0 := by
    have := (List.getElem?_eq_some_iff.1 hx).1
    simp at this; omega
  subst hi
  simp at hx
  subst hx
  refine ⟨b, off, [.int .i8 z.k, .int .i64 z.n, .string z.s], rfl, rfl, fun j c hj => ?_, ?_⟩
  · have hjl := (List.getElem?_eq_some_iff.1 hj).1
    simp at hjl
    match j, hjl with
    | 0, _ => simp at hj; subst hj; simpa using h7
    | 1, _ => simp at hj; subst hj; simpa using h8
    | 2, _ => simp at hj; subst hj; simpa using h9
  · exact ⟨rfl, h3⟩
theorem colOne {w : World} {v : Value} {t : List V} (h : RCol w [v] t) (e : TypeId) : SlRep 1 1 RCol (w.alloc (.cells #[v] e)) (.slice (some ⟨w.heap.size, 0, none⟩) 1 1) [t] :=
  ⟨_, 1, rfl, Nat.le_refl _, Nat.le_refl _, fun i y hy => by
    have hi : i = 0 := by
      have := (List.getElem?_eq_some_iff.1 hy).1
      simp at this; omega
    subst hi
    simp at hy
    subst hy
    refine ⟨w.heap.size, 0, [v], rfl, rfl, fun j c hj => ?_, RCol.stays _ _ _ _ (Fut.alloc w _) h⟩
    rw [show 0 + (0 * 1 + j) = j by omega]
    have h0 := heap_alloc_new w (.cells #[v] e)
    simp only [World.cell?, h0]
    simpa using hj⟩
theorem colT_len_le (X : List Fc) (p : ByteArray) (c : Nat) : (colT X p c).length ≤ X.length := by
  unfold colT colOf
  rw [List.length_map]
  refine Nat.le_trans (List.length_filterMap_le _ _) ?_
  rw [List.length_map]
  exact List.length_filter_le _ _
theorem colT_one {X : List Fc} {p : ByteArray} {c : Nat} : ∀ t ∈ colT X p c, t.length ≤ 4398046511104 := fun t ht => by
  unfold colT at ht
  obtain ⟨v, _, rfl⟩ := List.mem_map.1 ht
  simp
theorem colT_snoc {X : List Fc} {k : Nat} (hk : k < X.length) (p : ByteArray) (c : Nat) : colT (X.take (k + 1)) p c = if h : X[k].p = p ∧ c < X[k].a.length then colT (X.take k) p c ++ [[X[k].a[c]'h.2]] else colT (X.take k) p c := by
  unfold colT colOf
  rw [ofP_take hk]
  split
  · rename_i h
    split
    · rename_i h2
      rw [List.map_append, List.filterMap_append, List.map_append]
      congr 1
      simp [List.getElem?_eq_getElem h2.2]
    · rename_i h2
      rw [List.map_append, List.filterMap_append, List.map_append]
      have : X[k].a[c]? = none := List.getElem?_eq_none (by
        have : ¬ c < X[k].a.length := fun h3 => h2 ⟨h, h3⟩
        omega)
      simp [this]
  · rename_i h
    rw [dif_neg (fun h2 => h h2.1)]
def wdOf (X : List Fc) (p : ByteArray) : Nat := ((ofP p X).map (·.a)).foldl (fun n t => max n t.length) 0
theorem wdOf_snoc {X : List Fc} {k : Nat} (hk : k < X.length) (p : ByteArray) : wdOf (X.take (k + 1)) p = if X[k].p = p then max (wdOf (X.take k) p) X[k].a.length else wdOf (X.take k) p := by
  unfold wdOf
  rw [ofP_take hk]
  split
  · rw [List.map_append, List.foldl_append]; rfl
  · rfl
theorem Only.set3 (w : World) (b : Nat) (u0 u1 u2 : Value) : Only (fun y => y = b) w (((w.setCell ⟨b, 0, none⟩ u0).setCell ⟨b, 1, none⟩ u1).setCell ⟨b, 2, none⟩ u2) := by
  have h0 : Only (fun y => y = b) w (w.setCell ⟨b, 0, none⟩ u0) := Only.set _ _ rfl
  have h1 : Only (fun y => y = b) (w.setCell ⟨b, 0, none⟩ u0) ((w.setCell ⟨b, 0, none⟩ u0).setCell ⟨b, 1, none⟩ u1) := Only.set _ _ rfl
  have h2 : Only (fun y => y = b) ((w.setCell ⟨b, 0, none⟩ u0).setCell ⟨b, 1, none⟩ u1) (((w.setCell ⟨b, 0, none⟩ u0).setCell ⟨b, 1, none⟩ u1).setCell ⟨b, 2, none⟩ u2) := Only.set _ _ rfl
  exact (h0.trans h1).trans h2
set_option maxHeartbeats 2000000 in
set_option maxRecDepth 100000 in
theorem rsize_any {B B' : Nat} (a : Value) (X : List Fc) (p : ByteArray) (w : World) (hO : OwnL 2 B 31 (RGo B' 52) w a X) (hX : X.length ≤ 1048576) (hl : ∀ t ∈ X, t.a.length ≤ 4398046511104) :
    Calls Tryd.prog 16 #[a, .string p] w fun e w' => ∃ v, e = .returned (.agg #[.string p, .int .i64 (szOf X p).rows, v]) ∧ OwnL 1 w.heap.size 3 RI w' v (ints (szOf X p).ds) ∧ Fut w w' := by
  have HO := Lib.hid hO
  have HL := Lib.hid hl
  obtain ⟨A, cap, rfl, hcl, hcm⟩ := hO.rep.form
  have hrows : (szOf X p).rows = (ofP p X).length := rfl
  have hds : Hid ((szOf X p).ds = (colsF [] ((ofP p X).map (·.a))).map List.length) := Lib.hid rfl
  generalize hSz : szOf X p = S at *
  obtain ⟨Sp, Srows, Sds⟩ := S
  dsimp only at hrows hds
  replace hrows := Lib.hid hrows
  clear hO hl
  go_enter Tryd.func16, Tryd.ntmps16
  go_wp2_with fail
  have hB0 := heap_alloc_new (w.alloc (.cells #[.string ⟨#[]⟩, .int .i64 0, .slice none 0 0] 40)) (.cells #[.string p, .int .i64 0, .slice none 0 0] 40)
  have hR0 := (Fut.alloc (w.alloc (.cells #[.string ⟨#[]⟩, .int .i64 0, .slice none 0 0] 40)) (.cells #[.string p, .int .i64 0, .slice none 0 0] 40)).block (heap_alloc_new w (.cells #[.string ⟨#[]⟩, .int .i64 0, .slice none 0 0] 40))
  have hF0 := (Fut.alloc w (.cells #[.string ⟨#[]⟩, .int .i64 0, .slice none 0 0] 40)).trans (Fut.alloc _ (.cells #[.string p, .int .i64 0, .slice none 0 0] 40))
  have hs0 : ((w.alloc (.cells #[.string ⟨#[]⟩, .int .i64 0, .slice none 0 0] 40)).alloc (.cells #[.string p, .int .i64 0, .slice none 0 0] 40)).heap.size = w.heap.size + 2 := by simp
  have hs00 : (w.alloc (.cells #[.string ⟨#[]⟩, .int .i64 0, .slice none 0 0] 40)).heap.size = w.heap.size + 1 := by simp
  rw [hs00] at hB0
  obtain ⟨w2, hW⟩ : ∃ W, (w.alloc (.cells #[.string ⟨#[]⟩, .int .i64 0, .slice none 0 0] 40)).alloc (.cells #[.string p, .int .i64 0, .slice none 0 0] 40) = W := ⟨_, rfl⟩
  rw [hW] at hB0 hR0 hF0 hs0 ⊢
  clear hW hs00
  have HB := Lib.hid hB0
  have HR := Lib.hid hR0
  have HF := Lib.hid hF0
  have hAb := fun q hq => (HO.out.block q hq).2
  clear hB0 hR0 hF0
  have hi3 : (Tryd.prog.info? 3).map (·.size) = some 1 := by kernel_rfl
  have hi38 : (Tryd.prog.info? 38).map (·.size) = some 1 := by kernel_rfl
  go_loopw [6, 7] (fun wd i wr => ∃ k : Nat, k ≤ X.length ∧ i = .int .i64 k ∧ wd = .int .i64 (wdOf (X.take k) p) ∧ Hid (wr.heap[w.heap.size + 1]? = some (.cells #[.string p, .int .i64 (ofP p (X.take k)).length, .slice none 0 0] 40 (0, 0))) ∧ Hid (Only (fun y => y = w.heap.size + 1) w2 wr)) (fun _ i _ => X.length - (intOf i).toNat)
  case atStart => exact ⟨0, Nat.zero_le _, rfl, rfl, HB, Lib.hid (Only.refl _)⟩
  case round =>
    obtain ⟨k, hk, rfl, rfl, hBk, hG⟩ := hrel
    have hbz := (Array.getElem?_eq_some_iff.1 hBk.out).1
    by_cases hlt : k < X.length
    · have hFr : Fut w wr := Only.toFut (S := fun _ => False) ((Only.fut HF.out).then hG.out (fun y hy hlt' => by omega)) (fun _ h => h.elim)
      obtain ⟨b, off, A', cp, rfl, hps, x0, x1, hvw⟩ := ownG_at (HO.out.fut RGo.stays hFr) hlt
      have hbl := hAb b rfl
      have hwn := wdOf_snoc hlt p
      have hon := ofP_take hlt p
      have hfl : X[k].a.length ≤ 4398046511104 := HL.out _ (List.getElem_mem hlt)
      have hrk : (ofP p (X.take k)).length ≤ k := Nat.le_trans (List.length_filter_le _ _) (by simp; omega)
      generalize X[k] = f at *
      have hltI : (k : Int) < X.length := by omega
      have e0 : (0 : Int) ≤ k ∧ (k : Int) < X.length := by omega
      by_cases h1 : ¬ f.p = p
      · have hq : (f.p.toList == p.toList) = false := by
          rw [beq_eq_false_iff_ne]
          exact fun h => h1 (ByteArray.ext (by rw [ByteArray.toList_eq, ByteArray.toList_eq] at h; exact Array.toList_inj.1 h))
        rw [if_neg h1] at hwn hon
        replace hwn := Lib.hid hwn
        replace hon := Lib.hid hon
        go_wp2
        go_roundw
        case rel => exact ⟨k + 1, by omega, by go_num, by rw [hwn.out], by rw [hon.out]; exact hBk, hG⟩
        case measure => simp [intOf] <;> omega
      · replace h1 := Decidable.of_not_not h1
        subst h1
        rw [if_pos rfl] at hwn hon
        have hon' : (ofP f.p (X.take (k + 1))).length = (ofP f.p (X.take k)).length + 1 := by rw [hon, List.length_append]; rfl
        have c1 := cell_at hBk.out 1 _ rfl
        have z1 := free_at hBk.out 1
        have hB' := hBk.out
        have hmx : IntKind.i64.wrap (((ofP f.p (X.take k)).length : Int) + 1) = (((ofP f.p (X.take k)).length + 1 : Nat) : Int) := by rw [IntKind.wrap_i64]; omega
        generalize (ofP f.p (X.take k)).length = m at *
        generalize wdOf (X.take k) f.p = wd at *
        obtain ⟨w4, hw4⟩ : ∃ W, wr.setCell ⟨w.heap.size + 1, 1, none⟩ (.int .i64 ((m : Int) + 1)) = W := ⟨_, rfl⟩
        have O4 : Only (fun y => y = w.heap.size + 1) wr w4 := hw4 ▸ Only.set _ _ rfl
        have hB4 : w4.heap[w.heap.size + 1]? = some (.cells #[.string f.p, .int .i64 ((m + 1 : Nat) : Int), .slice none 0 0] 40 (0, 0)) := by
          rw [← hw4]; simp [World.setCell, Array.getElem?_modify, hB']
        have x1' := O4.cell x1 (by show ¬ b = _; omega)
        have hGn := Lib.hid (hG.out.trans O4)
        replace hB4 := Lib.hid hB4
        have hw5 : wr.setCell ⟨w.heap.size + 1, 1, none⟩ (.int .i64 ((m + 1 : Nat) : Int)) = w4 := hw4
        have hon2 := Lib.hid hon'
        have hwn2 := Lib.hid hwn
        clear O4 hB' hon' hon hwn hvw
        go_wp2_with (first | (refine wpList_store_1 (wanted_none rfl _) _ _ rfl rfl rfl hi3 rfl c1 z1 hw4 ?_) | (refine wpList_store_1 (wanted_none rfl _) _ _ rfl rfl rfl hi3 rfl c1 z1 hw5 ?_))
        go_roundw
        case rel => exact ⟨k + 1, by omega, by go_num, by rw [hwn2.out]; go_num, by rw [hon2.out]; exact hB4, hGn⟩
        case measure => simp [intOf] <;> omega
    · obtain rfl : k = X.length := by omega
      rw [List.take_length] at hBk ⊢
      obtain ⟨wq, hwq⟩ : ∃ x, x = wr := ⟨_, rfl⟩
      subst hwq
      have hFq := Lib.hid (Only.toFut (S := fun _ => False) ((Only.fut HF.out).then hG.out (fun y hy hlt' => by omega)) (fun _ h => h.elim))
      have hRq := Lib.hid (hG.out.keeps HR.out (by omega))
      have hwl : wdOf X p = (colsF [] ((ofP p X).map (·.a))).length := by
        rw [colsF_len]; rfl
      have hLl : ((colsF [] ((ofP p X).map (·.a))).map List.length).length = wdOf X p := by rw [List.length_map, hwl]
      have hLat : ∀ c (hc : c < wdOf X p), ((colsF [] ((ofP p X).map (·.a))).map List.length)[c]'(by rw [hLl]; exact hc) = (sortU cmpT (colT X p c)).length := fun c hc => by
        rw [List.getElem_map]
        exact (colT_len X p (by rw [← hwl]; exact hc)).symm
      have hWm : wdOf X p ≤ 4398046511104 := by
        refine fold_max (by decide) fun t ht => ?_
        obtain ⟨f, hf, rfl⟩ := List.mem_map.1 ht
        exact HL.out f (List.mem_filter.1 hf).1
      generalize (colsF [] ((ofP p X).map (·.a))).map List.length = L at *
      replace hLat := Lib.hid hLat
      have hN : (ofP p X).length ≤ 1048576 := Nat.le_trans (List.length_filter_le _ _) hX
      generalize (ofP p X).length = N at *
      clear hwl
      generalize wdOf X p = W at *
      have hs2q : w.heap.size + 2 ≤ wq.heap.size := by have := hG.out.size; omega
      clear hG HB HR
      go_wp2_with fail
      go_loopw [8] (fun c wi => ∃ (c0 : Nat) (dv : Value), c0 ≤ W ∧ c = .int .i64 c0 ∧ Hid (wi.heap[w.heap.size + 1]? = some (.cells #[.string p, .int .i64 N, dv] 40 (0, 0))) ∧ Hid (OwnL 1 (w.heap.size + 2) 3 RI wi dv (ints (L.take c0))) ∧ Hid (Only (fun y => w.heap.size + 1 ≤ y) wq wi)) (fun c _ => W - (intOf c).toNat)
      case atStart => exact ⟨0, .slice none 0 0, Nat.zero_le _, rfl, hBk, Lib.hid OwnL.nil, Lib.hid (Only.refl _)⟩
      case round =>
        obtain ⟨c0, dv, hc0, rfl, hBx, hDv, hGi⟩ := hrel
        obtain ⟨wi, hwi⟩ : ∃ x, x = wr := ⟨_, rfl⟩
        subst hwi
        have hFi := Lib.hid (Only.toFut (S := fun _ => False) ((Only.fut hFq.out).then hGi.out (fun y hy hlt' => by omega)) (fun _ h => h.elim))
        by_cases hcl0 : c0 < W
        · have hcI : (c0 : Int) < W := by omega
          go_wp2_with fail
          go_loopw [9, 10] (fun o i wj => ∃ k : Nat, k ≤ X.length ∧ i = .int .i64 k ∧ Hid (OwnL 1 wi.heap.size 29 RCol wj o (colT (X.take k) p c0)) ∧ Hid (Fut wi wj)) (fun _ i _ => X.length - (intOf i).toNat)
          case atStart => exact ⟨0, Nat.zero_le _, rfl, Lib.hid OwnL.nil, Lib.hid (Fut.refl _)⟩
          case round =>
            obtain ⟨k, hk, rfl, hC, hFj⟩ := hrel
            by_cases hlt : k < X.length
            · have hFr := hFi.out.trans hFj.out
              obtain ⟨b, off, A', cp, rfl, hps, x0, x1, hvw⟩ := ownG_at (HO.out.fut RGo.stays hFr) hlt
              have hcn := colT_snoc hlt p c0
              have hfl : X[k].a.length ≤ 4398046511104 := HL.out _ (List.getElem_mem hlt)
              generalize X[k] = f at *
              have hltI : (k : Int) < X.length := by omega
              have e0 : (0 : Int) ≤ k ∧ (k : Int) < X.length := by omega
              by_cases h1 : ¬ f.p = p
              · have hq : (f.p.toList == p.toList) = false := by
                  rw [beq_eq_false_iff_ne]
                  exact fun h => h1 (ByteArray.ext (by rw [ByteArray.toList_eq, ByteArray.toList_eq] at h; exact Array.toList_inj.1 h))
                rw [dif_neg (fun h => h1 h.1)] at hcn
                replace hcn := Lib.hid hcn
                go_wp2
                go_roundw
                case rel => exact ⟨k + 1, by omega, by go_num, by rw [hcn.out]; exact hC, hFj⟩
                case measure => simp [intOf] <;> omega
              · replace h1 := Decidable.of_not_not h1
                subst h1
                by_cases h2 : ¬ c0 < f.a.length
                · rw [dif_neg (fun h => h2 h.2)] at hcn
                  have h2I : ¬ (c0 : Int) < f.a.length := by omega
                  have h2J : ¬ (f.a.length : Int) > c0 := by omega
                  replace hcn := Lib.hid hcn
                  go_wp2
                  go_roundw
                  case rel => exact ⟨k + 1, by omega, by go_num, by rw [hcn.out]; exact hC, hFj⟩
                  case measure => simp [intOf] <;> omega
                · replace h2 := Decidable.of_not_not h2
                  rw [dif_pos ⟨rfl, h2⟩] at hcn
                  have h2J : (f.a.length : Int) > c0 := by omega
                  obtain ⟨b2, off2, rfl, hok, u0, u1, u2⟩ := hvw.vals.at_ h2
                  obtain ⟨arr2, hty⟩ := hvw.typed b2 rfl
                  obtain ⟨_, _, hvf, hlc, hcm9⟩ := hvw.rep.form
                  injection hvf with e1 _ e3
                  subst e1; subst e3
                  generalize f.a[c0] = z at *
                  replace hcn := Lib.hid hcn
                  have hCk : RCol wr [.slice (some ⟨b2, off2 + c0 * 3, none⟩) 1 (cp - c0)] [z] := ⟨b2, off2 + c0 * 3, cp - c0, z, rfl, rfl, hok, by omega, by omega, ⟨arr2, hty⟩, u0, u1, u2⟩
                  have hlL := colT_len_le (X.take k) f.p c0
                  rw [List.length_take, Nat.min_eq_left (by omega)] at hlL
                  have hb9 : wi.heap.size ≤ wr.heap.size := hFj.out.size
                  go_wp2_with (first | (at_builtin; refine wpList_append_LB (R := RCol) (B := wi.heap.size) (M := 1) (xs := colT (X.take k) f.p c0) (ys := [[z]]) (e := 29) (by go_simp) _ _ 68 rfl Tryd.underlying68 (.slice none 0 0) 24 infoT rfl (by decide) RCol.one RCol.keeps rfl rfl (hC.out.fut RCol.stays (Fut.alloc _ _)) (colOne hCk _) ?l3 ?l4 ?b3 ?k3))
                  case l3 => simp [maxLen]; omega
                  case l4 => first | omega | (simp; omega)
                  case b3 => first | omega | (simp; omega)
                  case k3 =>
                  intro v' w' o' g' sn'
                  have F' := Lib.hid (Fut.grown (hFj.out.trans (Fut.alloc _ _)) g' (fun y hy => (hC.out.block y hy).1))
                  have o5 := Lib.hid o'
                  clear o' g' sn' hCk
                  go_wp2
                  go_roundw
                  case rel => exact ⟨k + 1, by omega, by go_num, by rw [hcn.out]; exact o5, F'⟩
                  case measure => simp [intOf] <;> omega
            · obtain rfl : k = X.length := by omega
              rw [List.take_length] at hC
              have hFj9 := hFj.out.size
              have hBj := hFj.out.block hBx.out
              have hDj := hDv.out.fut RI.stays hFj.out
              have hTl : (colT X p c0).length ≤ X.length := colT_len_le X p c0
              have hLn : ints (L.take (c0 + 1)) = ints (L.take c0) ++ [(((sortU cmpT (colT X p c0)).length : Nat) : Int)] := by
                unfold ints
                rw [List.take_succ_eq_append_getElem (by omega), List.map_append, hLat.out c0 hcl0]; rfl
              have hml : (sortU cmpT (colT X p c0)).length ≤ 1048576 := Nat.le_trans (sortU_lenS _) (by omega)
              have hdl : (ints (L.take c0)).length = c0 := by unfold ints; rw [List.length_map, List.length_take]; omega
              obtain ⟨A5, c5, hdv, hc5, _⟩ := hDj.rep.form
              rw [hdl] at hdv hc5
              subst hdv
              have d2 := cell_at hBj 2 _ rfl
              generalize ints (L.take c0) = L0 at *
              replace hLn := Lib.hid hLn
              replace hdl := Lib.hid hdl
              replace hBj := Lib.hid hBj
              have hDw := Lib.hid hDj
              clear hDj
              obtain ⟨Ac, cc, rfl, _, _⟩ := hC.out.rep.form
              go_wp2_with fail
              refine wp_graph 6 [.d, .d, .d, .r (fun v w' => ∃ A c, v = .slice A (sortU cmpT (colT X p c0)).length c), .d, .r (fun v w' => SlRep 1 1 RI w' v [(((sortU cmpT (colT X p c0)).length : Nat) : Int)])] (by kernel_rfl) (by kernel_rfl) (by kernel_rfl) ?_
              simp only [List.take_succ_cons, List.take_zero, List.drop_succ_cons, List.drop_zero, Exs]
              iterate 4 apply Exists.intro
              apply Run.valG (wanted_none rfl _)
              · intro w1 h1 hk
                have q1 := h1.cell d2
                have hcw := fun b o => Below.cell (p := ⟨b, o, none⟩) h1
                go_simp; rfl
              simp only [Act.put, List.setIfInBounds_toArray, List.set_cons_succ, List.set_cons_zero, List.nil_append, List.cons_append]
              apply Run.valG (wanted_none rfl _)
              · intro w1 h1 hk
                have q1 := h1.cell d2
                have hcw := fun b o => Below.cell (p := ⟨b, o, none⟩) h1
                go_simp; rfl
              simp only [Act.put, List.setIfInBounds_toArray, List.set_cons_succ, List.set_cons_zero, List.nil_append, List.cons_append]
              apply Run.valG (wanted_none rfl _)
              · intro w1 h1 hk
                have q1 := h1.cell d2
                have hcw := fun b o => Below.cell (p := ⟨b, o, none⟩) h1
                go_simp; rfl
              simp only [Act.put, List.setIfInBounds_toArray, List.set_cons_succ, List.set_cons_zero, List.nil_append, List.cons_append]
              apply Run.callR (wanted_none rfl _) (by intro v w w' hf hs; exact hs) (fun _ _ => by go_simp; exact ⟨rfl, rfl⟩)
              · intro w1 h1 hk
                have q1 := h1.cell d2
                refine (rtuples_any _ _ (colT X p c0) _ rfl (by omega) ((((hC.out.fut RCol.stays ((Fut.drew _).trans h1)).rep.imp fun cs x hc => hc.rt).more (by unfold maxLen; omega))) colT_one).mono ?_; rintro e w' ⟨v, rfl, ho, hf⟩; obtain ⟨A, cp, rfl, _⟩ := ho.rep.form; exact ⟨_, rfl, hf, A, cp, rfl⟩
              intro v3
              simp only [Act.put, List.setIfInBounds_toArray, List.set_cons_succ, List.set_cons_zero, List.nil_append, List.cons_append]
              apply Run.valG (wanted_none rfl _)
              · intro w1 h1 hk
                have f3 := Facts.get hk 0 rfl (by kernel_rfl)
                have q1 := h1.cell d2
                have hcw := fun b o => Below.cell (p := ⟨b, o, none⟩) h1
                obtain ⟨At, ct, rfl⟩ := f3; go_simp; rfl
              simp only [Act.put, List.setIfInBounds_toArray, List.set_cons_succ, List.set_cons_zero, List.nil_append, List.cons_append]
              apply Run.valR (wanted_none rfl _) (by intro v w w' hf hs; exact hs.fut RI.stays hf)
              · intro w1 h1 hk
                have q1 := h1.cell d2
                go_simp; exact ⟨_, _, ⟨rfl, rfl⟩, Fut.alloc _ _, inOne w1 _ _⟩
              intro v5
              simp only [Act.put, List.setIfInBounds_toArray, List.set_cons_succ, List.set_cons_zero, List.nil_append, List.cons_append]
              apply Run.done
              intro w2 h2 hk
              obtain ⟨f3, f5, _⟩ := hk
              have HS5 := Lib.hid f5
              clear f5 f3
              have F2 := (Fut.drew _).trans h2
              clear h2 d2
              have hs9 := F2.size
              generalize (sortU cmpT (colT X p c0)).length = m at *
              have hB2 := Lib.hid (F2.block hBj.out)
              have hD2 := Lib.hid (hDw.out.fut RI.stays F2)
              have F3 := Lib.hid ((hFj.out.trans F2))
              clear F2
              have hbz := (Array.getElem?_eq_some_iff.1 hBx.out).1
              go_wp2_with (first | (at_builtin; refine wpList_append_LB (R := RI) (B := w.heap.size + 2) (M := 1) (xs := L0) (ys := [(m : Int)]) (e := 3) (by go_simp) _ _ 38 rfl Tryd.underlying38 (.int .i64 0) 8 infoIn rfl (by decide) RI.one RI.keeps rfl rfl hD2.out HS5.out ?l3 ?l4 ?b3 ?k3))
              case l3 => have := hdl.out; simp [maxLen]; omega
              case l4 => have := hdl.out; first | omega | (simp; omega)
              case b3 => first | omega | (simp; omega)
              case k3 =>
              intro v' w' o' g' sn'
              have hdlt := fun y hy => (hD2.out.block y hy)
              have hB1 := (Only.grown (S := fun y => Value.ownBlock (.slice A5 c0 c5) = some y) g' fun y hy => hy).keeps hB2.out (fun hy => by have := (hdlt _ hy).1; omega)
              have O1w := (Only.fut (S := fun y => w.heap.size + 1 ≤ y) F3.out).then (Only.grown (S := fun y => w.heap.size + 1 ≤ y) g' (fun y hy => by have := (hdlt y hy).1; omega)) (fun y hy _ => hy)
              obtain ⟨A8, c8, rfl, hc8, _⟩ := o'.rep.form
              have x1 := cell_at hB1 2 _ rfl
              have x2 := free_at hB1 2
              obtain ⟨w5, hw5⟩ : ∃ W, w'.setCell ⟨w.heap.size + 1, 2, none⟩ (.slice A8 (L0 ++ [(m : Int)]).length c8) = W := ⟨_, rfl⟩
              have O5 : Only (fun y => y = w.heap.size + 1) w' w5 := hw5 ▸ Only.set _ _ rfl
              have hB5 : w5.heap[w.heap.size + 1]? = some (.cells #[.string p, .int .i64 N, .slice A8 (L0 ++ [(m : Int)]).length c8] 40 (0, 0)) := by
                rw [← hw5]; simp [World.setCell, Array.getElem?_modify, hB1]
              have o5 : OwnL 1 (w.heap.size + 2) 3 RI w5 (.slice A8 (L0 ++ [(m : Int)]).length c8) (L0 ++ [(m : Int)]) := OwnL.only o' (fun _ _ h => h) O5 (fun y hy (e9 : y = w.heap.size + 1) => by have := (o'.block y hy).1; omega)
              have F5 := Lib.hid (hGi.out.trans (O1w.then O5 fun y hy _ => by omega))
              replace hB5 := Lib.hid hB5
              replace o5 := Lib.hid o5
              clear o' g' sn' hB1 O1w O5
              go_wp2_with (first | (refine wpList_store_1 (wanted_none rfl _) _ _ rfl rfl rfl hi38 rfl x1 x2 hw5 ?_))
              go_roundw
              case rel => exact ⟨c0 + 1, _, by omega, by go_num, hB5, by rw [hLn.out]; exact o5, F5⟩
              case measure => simp [intOf] <;> omega
        · obtain rfl : c0 = W := by omega
          have hLL : L.take c0 = L := List.take_of_length_le (by omega)
          rw [hLL] at hDv
          have hRi := hGi.out.keeps hRq.out (by omega)
          obtain ⟨A5, c5, hdv, hc5, _⟩ := hDv.out.rep.form
          subst hdv
          have hsi := hFi.out.size
          have hlr := (Array.getElem?_eq_some_iff.1 hRi).1
          have c00 := cell_at hRi 0 _ rfl
          have c01 := cell_at hRi 1 _ rfl
          have c02 := cell_at hRi 2 _ rfl
          have z00 := free_at hRi 0
          have z01 := free_at hRi 1
          have z02 := free_at hRi 2
          have s0 := cell_at hBx.out 0 _ rfl
          have s1 := cell_at hBx.out 1 _ rfl
          have s2 := cell_at hBx.out 2 _ rfl
          have OW : ∀ (u0 u1 u2 : Value), Only (fun y => y = w.heap.size) wi (((wi.setCell ⟨w.heap.size, 0, none⟩ u0).setCell ⟨w.heap.size, 1, none⟩ u1).setCell ⟨w.heap.size, 2, none⟩ u2) := fun u0 u1 u2 => Only.set3 wi w.heap.size u0 u1 u2
          have FR := Lib.hid (fun (u0 u1 u2 : Value) => (OwnL.only (S := fun y => y = w.heap.size) hDv.out (fun _ _ h => h) (OW u0 u1 u2) (fun y hy (e9 : y = w.heap.size) => by have := (hDv.out.block y hy).1; omega) : OwnL 1 (w.heap.size + 2) 3 RI (((wi.setCell ⟨w.heap.size, 0, none⟩ u0).setCell ⟨w.heap.size, 1, none⟩ u1).setCell ⟨w.heap.size, 2, none⟩ u2) (.slice A5 (ints L).length c5) (ints L)))
          have FF := Lib.hid (fun (u0 u1 u2 : Value) => Only.toFut (S := fun y => y = w.heap.size) ((Only.fut hFi.out).then (OW u0 u1 u2) fun y hy _ => hy) (fun y hy => by omega))
          clear OW hRi
          go_wp2
          refine bodyPost_ret (v := .agg #[.string p, .int .i64 N, .slice A5 (ints L).length c5]) (by simp [results, Tryd.results16, go_sem, c00, c01, c02, z00, z01, z02]) rfl ⟨.slice A5 (ints L).length c5, by rw [hrows.out], ?_, ?_⟩
          · rw [hds.out]; exact (FR.out _ _ _).base (by omega)
          · exact FF.out _ _ _
end Go.Proofs.YtkdnplebgmmclaaDoor
/- Sizes: the document's. -/
namespace Go.Proofs.YtkdnplebgmmclaaDoor
open Go.RowKit
set_option linter.unusedSimpArgs false
set_option linter.unusedVariables false

theorem str_ne {a b : ByteArray} (h : ¬ a = b) : (a.toList == b.toList) = false := by
  rw [beq_eq_false_iff_ne]
  exact fun h' => h (ByteArray.ext (by rw [ByteArray.toList_eq, ByteArray.toList_eq] at h'; exact Array.toList_inj.1 h'))
set_option maxHeartbeats 2000000 in
set_option maxRecDepth 100000 in
theorem rsizes_any (a : Value) (ts : List Fc) (w : World) (ha : FacsG w a ts) (hb : ts.length ≤ 1048576) (hl : ∀ t ∈ ts, t.a.length ≤ 4398046511104) :
    Calls Tryd.prog 6 #[a] w fun e w' => ∃ v, e = .returned v ∧ OwnL 3 w.heap.size 40 (RSz w.heap.size) w' v (sizesOf (sortU cmpF ts)) ∧ Fut w w' := by
  have HA := Lib.hid ha
  have HL := Lib.hid hl
  have hX : (sortU cmpF ts).length ≤ 1048576 := Nat.le_trans (sortU_len ts) hb
  obtain ⟨A0, cap0, rfl, _, _⟩ := SlRep.form ha
  have HC := Lib.hid (rfacts_any ts.length _ ts w rfl (by omega) HA.out HL.out)
  have HXl : Hid (∀ t ∈ sortU cmpF ts, t.a.length ≤ 4398046511104) := Lib.hid fun t ht => HL.out t (((sortU_spec (tot_of ordF) ts).2 t).1 ht)
  have HUp : Hid (Up cmpF (sortU cmpF ts)) := Lib.hid (sortU_spec (tot_of ordF) ts).1
  clear ha hl HA HL
  generalize sortU cmpF ts = X at *
  go_enter Tryd.func6, Tryd.ntmps6
  go_wp2_with fail
  refine HC.out.mono ?_
  rintro e w1 ⟨v, rfl, hO, f1⟩
  have HO := Lib.hid hO
  have F1 := Lib.hid f1
  obtain ⟨A, cap, rfl, hcl, hcm⟩ := hO.rep.form
  clear hO f1 HC
  go_wp2_with fail
  go_loopw [3, 4] (fun o i wr => ∃ k : Nat, k ≤ X.length ∧ i = .int .i64 k ∧ Hid (OwnL 3 w1.heap.size 40 (RSz w1.heap.size) wr o ((heads X k).map (szOf X))) ∧ Hid (Fut w1 wr)) (fun _ i _ => X.length - (intOf i).toNat)
  case atStart => exact ⟨0, Nat.zero_le _, rfl, Lib.hid OwnL.nil, Lib.hid (Fut.refl _)⟩
  case round =>
    obtain ⟨k, hk, rfl, hF, hG⟩ := hrel
    by_cases hlt : k < X.length
    · obtain ⟨b, off, A', cp, rfl, hps, x0, x1, _⟩ := ownG_at (HO.out.fut RGo.stays hG.out) hlt
      have hhl : (heads X k).length ≤ k := by
        have h9 := sortU_lenS (c := cmpS) ((X.take k).map (·.p))
        rw [List.length_map, List.length_take] at h9
        unfold heads; omega
      have hltI : (k : Int) < X.length := by omega
      have e0 : (0 : Int) ≤ k ∧ (k : Int) < X.length := by omega
      have hm9 := fun h => heads_more HUp.out hlt h
      by_cases hk0 : k = 0
      · have hmore := hm9 (.inl hk0)
        clear hm9
        subst hk0
        generalize X[0].p = fp at *
        rw [Nat.zero_mul, Nat.add_zero] at x0
        go_wp2_with fail
        refine wp_graph 16 [.d, .d, .d, .d, .d, .d, .d, .d, .d, .d, .d, .d, .d, .d, .d, .d] (by kernel_rfl) (by kernel_rfl) (by kernel_rfl) ?_
        simp only [List.take_succ_cons, List.take_zero, List.drop_succ_cons, List.drop_zero, Exs]
        iterate 16 apply Exists.intro
        apply Run.valG (wanted_none rfl _)
        · intro w1 h1 hk
          have q1 := h1.cell x0
          have hcw := fun b o => Below.cell (p := ⟨b, o, none⟩) h1
          go_simp; rfl
        simp only [Act.put, List.setIfInBounds_toArray, List.set_cons_succ, List.set_cons_zero, List.nil_append, List.cons_append]
        apply Run.valG (wanted_none rfl _)
        · intro w1 h1 hk
          have q1 := h1.cell x0
          have hcw := fun b o => Below.cell (p := ⟨b, o, none⟩) h1
          go_simp; rfl
        simp only [Act.put, List.setIfInBounds_toArray, List.set_cons_succ, List.set_cons_zero, List.nil_append, List.cons_append]
        apply Run.valG (wanted_none rfl _)
        · intro w1 h1 hk
          have q1 := h1.cell x0
          have hcw := fun b o => Below.cell (p := ⟨b, o, none⟩) h1
          go_simp; rfl
        simp only [Act.put, List.setIfInBounds_toArray, List.set_cons_succ, List.set_cons_zero, List.nil_append, List.cons_append]
        apply Run.skip (by go_simp)
        simp only [Act.put, List.setIfInBounds_toArray, List.set_cons_succ, List.set_cons_zero, List.nil_append, List.cons_append]
        apply Run.skip (by go_simp)
        simp only [Act.put, List.setIfInBounds_toArray, List.set_cons_succ, List.set_cons_zero, List.nil_append, List.cons_append]
        apply Run.skip (by go_simp)
        simp only [Act.put, List.setIfInBounds_toArray, List.set_cons_succ, List.set_cons_zero, List.nil_append, List.cons_append]
        apply Run.skip (by go_simp)
        simp only [Act.put, List.setIfInBounds_toArray, List.set_cons_succ, List.set_cons_zero, List.nil_append, List.cons_append]
        apply Run.skip (by go_simp)
        simp only [Act.put, List.setIfInBounds_toArray, List.set_cons_succ, List.set_cons_zero, List.nil_append, List.cons_append]
        apply Run.skip (by go_simp)
        simp only [Act.put, List.setIfInBounds_toArray, List.set_cons_succ, List.set_cons_zero, List.nil_append, List.cons_append]
        apply Run.skip (by go_simp)
        simp only [Act.put, List.setIfInBounds_toArray, List.set_cons_succ, List.set_cons_zero, List.nil_append, List.cons_append]
        apply Run.skip (by go_simp)
        simp only [Act.put, List.setIfInBounds_toArray, List.set_cons_succ, List.set_cons_zero, List.nil_append, List.cons_append]
        apply Run.skip (by go_simp)
        simp only [Act.put, List.setIfInBounds_toArray, List.set_cons_succ, List.set_cons_zero, List.nil_append, List.cons_append]
        apply Run.skip (by go_simp)
        simp only [Act.put, List.setIfInBounds_toArray, List.set_cons_succ, List.set_cons_zero, List.nil_append, List.cons_append]
        apply Run.skip (by go_simp)
        simp only [Act.put, List.setIfInBounds_toArray, List.set_cons_succ, List.set_cons_zero, List.nil_append, List.cons_append]
        apply Run.skip (by go_simp)
        simp only [Act.put, List.setIfInBounds_toArray, List.set_cons_succ, List.set_cons_zero, List.nil_append, List.cons_append]
        apply Run.valG (wanted_none rfl _)
        · intro w1 h1 hk
          have q1 := h1.cell x0
          have hcw := fun b o => Below.cell (p := ⟨b, o, none⟩) h1
          go_simp; rfl
        simp only [Act.put, List.setIfInBounds_toArray, List.set_cons_succ, List.set_cons_zero, List.nil_append, List.cons_append]
        apply Run.done
        intro w2 h2 hk
        clear hk
        have F2 := (Fut.drew _).trans h2
        have x2 := F2.cell x0
        go_wp2_with fail
        have hs9 := (hG.out.trans F2).size
        clear h2
        refine (rsize_any _ X fp _ (HO.out.fut RGo.stays (hG.out.trans F2)) hX HXl.out).mono ?_
        rintro e w3 ⟨dv, rfl, hDv, f3⟩
        have hDw : OwnL 1 w1.heap.size 3 RI w3 dv (ints (szOf X fp).ds) := hDv.base (by omega)
        have hF3 := (hF.out.fut RSz.stays F2).fut RSz.stays f3
        have hNn : (heads X (0 + 1)).map (szOf X) = (heads X (0)).map (szOf X) ++ [szOf X fp] := by rw [hmore, List.map_append]; rfl
        have hll : ((heads X (0)).map (szOf X)).length ≤ 0 := by rw [List.length_map]; exact hhl
        have G3 := (hG.out.trans F2).trans f3
        have hb3 := G3.size
        generalize (heads X (0)).map (szOf X) = L0 at *
        replace hNn := Lib.hid hNn
        have hfp : (szOf X fp).p = fp := rfl
        generalize szOf X fp = S at *
        rw [← hfp]
        clear hfp hmore hDv f3 F2 x2 
        go_wp2_with (first | (at_builtin; refine wpList_append_LB (R := RSz w1.heap.size) (B := w1.heap.size) (M := 1) (xs := L0) (ys := [S]) (e := 40) (by go_simp) _ _ 24 rfl Tryd.underlying24 (.agg #[.string ⟨#[]⟩, .int .i64 0, .slice none 0 0]) 48 infoSz rfl (by decide) RSz.one (RSz.keeps (by decide)) rfl rfl (hF3.fut RSz.stays (Fut.alloc _ _)) (szOne hDw _) ?l3 ?l4 ?b3 ?k3))
        case l3 => simp [maxLen]; omega
        case l4 => first | omega | (simp; omega)
        case b3 => first | omega | (simp; omega)
        case k3 =>
        intro v' w' o' g' sn'
        have F' := Lib.hid (Fut.grown (G3.trans (Fut.alloc _ _)) g' (fun y hy => (hF3.block y hy).1))
        have o5 := Lib.hid o'
        clear o' g' sn'
        go_wp2
        go_roundw
        case rel => exact ⟨0 + 1, by omega, by go_num, by rw [hNn.out]; exact o5, F'⟩
        case measure => simp [intOf] <;> omega
      · obtain ⟨b', off', A'', cp', hAA, _, y0, _, _⟩ := ownG_at (HO.out.fut RGo.stays hG.out) (show k - 1 < X.length by omega)
        injection hAA with hAA
        injection hAA with hb1 hb2 _
        subst hb1; subst hb2
        obtain ⟨m, rfl⟩ : ∃ m, k = m + 1 := ⟨k - 1, by omega⟩
        have hsm := heads_same (X := X) (k := m + 1) (by omega) hlt
        simp only [Nat.add_sub_cancel] at y0 hsm hm9
        have e1 : (0 : Int) ≤ m ∧ (m : Int) < X.length := by omega
        have hnz : ¬ ((m : Int) + 1 = 0) := by omega
        have hwm : IntKind.i64.wrap (m : Int) = m := by rw [IntKind.wrap_i64]; omega
        generalize X[m + 1].p = fp at *
        generalize hgp : X[m].p = gp at *
        by_cases hne : ¬ fp = gp
        · have hmore := hm9 (.inr ⟨by omega, fun h => hne (h.trans hgp)⟩)
          have hq := str_ne hne
          go_wp2_with fail
          refine wp_graph 16 [.d, .d, .d, .d, .d, .d, .d, .d, .d, .d, .d, .d, .d, .d, .d, .d] (by kernel_rfl) (by kernel_rfl) (by kernel_rfl) ?_
          simp only [List.take_succ_cons, List.take_zero, List.drop_succ_cons, List.drop_zero, Exs]
          iterate 16 apply Exists.intro
          apply Run.valG (wanted_none rfl _)
          · intro w1 h1 hk
            have q1 := h1.cell x0; have q2 := h1.cell y0
            have hcw := fun b o => Below.cell (p := ⟨b, o, none⟩) h1
            go_simp; rfl
          simp only [Act.put, List.setIfInBounds_toArray, List.set_cons_succ, List.set_cons_zero, List.nil_append, List.cons_append]
          apply Run.valG (wanted_none rfl _)
          · intro w1 h1 hk
            have q1 := h1.cell x0; have q2 := h1.cell y0
            have hcw := fun b o => Below.cell (p := ⟨b, o, none⟩) h1
            go_simp; rfl
          simp only [Act.put, List.setIfInBounds_toArray, List.set_cons_succ, List.set_cons_zero, List.nil_append, List.cons_append]
          apply Run.valG (wanted_none rfl _)
          · intro w1 h1 hk
            have q1 := h1.cell x0; have q2 := h1.cell y0
            have hcw := fun b o => Below.cell (p := ⟨b, o, none⟩) h1
            go_simp; rfl
          simp only [Act.put, List.setIfInBounds_toArray, List.set_cons_succ, List.set_cons_zero, List.nil_append, List.cons_append]
          apply Run.valG (by go_simp)
          · intro w1 h1 hk
            have q1 := h1.cell x0; have q2 := h1.cell y0
            have hcw := fun b o => Below.cell (p := ⟨b, o, none⟩) h1
            go_simp; rfl
          simp only [Act.put, List.setIfInBounds_toArray, List.set_cons_succ, List.set_cons_zero, List.nil_append, List.cons_append]
          apply Run.valG (by go_simp)
          · intro w1 h1 hk
            have q1 := h1.cell x0; have q2 := h1.cell y0
            have hcw := fun b o => Below.cell (p := ⟨b, o, none⟩) h1
            go_simp; rfl
          simp only [Act.put, List.setIfInBounds_toArray, List.set_cons_succ, List.set_cons_zero, List.nil_append, List.cons_append]
          apply Run.valG (by go_simp)
          · intro w1 h1 hk
            have q1 := h1.cell x0; have q2 := h1.cell y0
            have hcw := fun b o => Below.cell (p := ⟨b, o, none⟩) h1
            go_simp; rfl
          simp only [Act.put, List.setIfInBounds_toArray, List.set_cons_succ, List.set_cons_zero, List.nil_append, List.cons_append]
          apply Run.valG (by go_simp)
          · intro w1 h1 hk
            have q1 := h1.cell x0; have q2 := h1.cell y0
            have hcw := fun b o => Below.cell (p := ⟨b, o, none⟩) h1
            go_simp; rfl
          simp only [Act.put, List.setIfInBounds_toArray, List.set_cons_succ, List.set_cons_zero, List.nil_append, List.cons_append]
          apply Run.valG (by go_simp)
          · intro w1 h1 hk
            have q1 := h1.cell x0; have q2 := h1.cell y0
            have hcw := fun b o => Below.cell (p := ⟨b, o, none⟩) h1
            go_simp; rfl
          simp only [Act.put, List.setIfInBounds_toArray, List.set_cons_succ, List.set_cons_zero, List.nil_append, List.cons_append]
          apply Run.valG (by go_simp)
          · intro w1 h1 hk
            have q1 := h1.cell x0; have q2 := h1.cell y0
            have hcw := fun b o => Below.cell (p := ⟨b, o, none⟩) h1
            go_simp; rfl
          simp only [Act.put, List.setIfInBounds_toArray, List.set_cons_succ, List.set_cons_zero, List.nil_append, List.cons_append]
          apply Run.valG (by go_simp)
          · intro w1 h1 hk
            have q1 := h1.cell x0; have q2 := h1.cell y0
            have hcw := fun b o => Below.cell (p := ⟨b, o, none⟩) h1
            go_simp; rfl
          simp only [Act.put, List.setIfInBounds_toArray, List.set_cons_succ, List.set_cons_zero, List.nil_append, List.cons_append]
          apply Run.valG (by go_simp)
          · intro w1 h1 hk
            have q1 := h1.cell x0; have q2 := h1.cell y0
            have hcw := fun b o => Below.cell (p := ⟨b, o, none⟩) h1
            go_simp; rfl
          simp only [Act.put, List.setIfInBounds_toArray, List.set_cons_succ, List.set_cons_zero, List.nil_append, List.cons_append]
          apply Run.valG (by go_simp)
          · intro w1 h1 hk
            have q1 := h1.cell x0; have q2 := h1.cell y0
            have hcw := fun b o => Below.cell (p := ⟨b, o, none⟩) h1
            go_simp; rfl
          simp only [Act.put, List.setIfInBounds_toArray, List.set_cons_succ, List.set_cons_zero, List.nil_append, List.cons_append]
          apply Run.valG (by go_simp)
          · intro w1 h1 hk
            have q1 := h1.cell x0; have q2 := h1.cell y0
            have hcw := fun b o => Below.cell (p := ⟨b, o, none⟩) h1
            go_simp; rfl
          simp only [Act.put, List.setIfInBounds_toArray, List.set_cons_succ, List.set_cons_zero, List.nil_append, List.cons_append]
          apply Run.valG (by go_simp)
          · intro w1 h1 hk
            have q1 := h1.cell x0; have q2 := h1.cell y0
            have hcw := fun b o => Below.cell (p := ⟨b, o, none⟩) h1
            go_simp; rfl
          simp only [Act.put, List.setIfInBounds_toArray, List.set_cons_succ, List.set_cons_zero, List.nil_append, List.cons_append]
          apply Run.valG (by go_simp)
          · intro w1 h1 hk
            have q1 := h1.cell x0; have q2 := h1.cell y0
            have hcw := fun b o => Below.cell (p := ⟨b, o, none⟩) h1
            go_simp; rfl
          simp only [Act.put, List.setIfInBounds_toArray, List.set_cons_succ, List.set_cons_zero, List.nil_append, List.cons_append]
          apply Run.valG (wanted_none rfl _)
          · intro w1 h1 hk
            have q1 := h1.cell x0; have q2 := h1.cell y0
            have hcw := fun b o => Below.cell (p := ⟨b, o, none⟩) h1
            go_simp; rfl
          simp only [Act.put, List.setIfInBounds_toArray, List.set_cons_succ, List.set_cons_zero, List.nil_append, List.cons_append]
          apply Run.done
          intro w2 h2 hk
          clear hk
          have F2 := (Fut.drew _).trans h2
          have x2 := F2.cell x0
          go_wp2_with fail
          have hs9 := (hG.out.trans F2).size
          clear h2
          refine (rsize_any _ X fp _ (HO.out.fut RGo.stays (hG.out.trans F2)) hX HXl.out).mono ?_
          rintro e w3 ⟨dv, rfl, hDv, f3⟩
          have hDw : OwnL 1 w1.heap.size 3 RI w3 dv (ints (szOf X fp).ds) := hDv.base (by omega)
          have hF3 := (hF.out.fut RSz.stays F2).fut RSz.stays f3
          have hNn : (heads X (m + 1 + 1)).map (szOf X) = (heads X (m + 1)).map (szOf X) ++ [szOf X fp] := by rw [hmore, List.map_append]; rfl
          have hll : ((heads X (m + 1)).map (szOf X)).length ≤ m + 1 := by rw [List.length_map]; exact hhl
          have G3 := (hG.out.trans F2).trans f3
          have hb3 := G3.size
          generalize (heads X (m + 1)).map (szOf X) = L0 at *
          replace hNn := Lib.hid hNn
          have hfp : (szOf X fp).p = fp := rfl
          generalize szOf X fp = S at *
          rw [← hfp]
          clear hfp hmore hDv f3 F2 x2 hm9 hsm
          go_wp2_with (first | (at_builtin; refine wpList_append_LB (R := RSz w1.heap.size) (B := w1.heap.size) (M := 1) (xs := L0) (ys := [S]) (e := 40) (by go_simp) _ _ 24 rfl Tryd.underlying24 (.agg #[.string ⟨#[]⟩, .int .i64 0, .slice none 0 0]) 48 infoSz rfl (by decide) RSz.one (RSz.keeps (by decide)) rfl rfl (hF3.fut RSz.stays (Fut.alloc _ _)) (szOne hDw _) ?l3 ?l4 ?b3 ?k3))
          case l3 => simp [maxLen]; omega
          case l4 => first | omega | (simp; omega)
          case b3 => first | omega | (simp; omega)
          case k3 =>
          intro v' w' o' g' sn'
          have F' := Lib.hid (Fut.grown (G3.trans (Fut.alloc _ _)) g' (fun y hy => (hF3.block y hy).1))
          have o5 := Lib.hid o'
          clear o' g' sn'
          go_wp2
          go_roundw
          case rel => exact ⟨m + 1 + 1, by omega, by go_num, by rw [hNn.out]; exact o5, F'⟩
          case measure => simp [intOf] <;> omega
        · replace hne := Decidable.of_not_not hne
          have hsame := hsm hne
          subst hne
          go_wp2_with fail
          refine wp_graph 16 [.d, .d, .d, .d, .d, .d, .d, .d, .d, .d, .d, .d, .d, .d, .d, .d] (by kernel_rfl) (by kernel_rfl) (by kernel_rfl) ?_
          simp only [List.take_succ_cons, List.take_zero, List.drop_succ_cons, List.drop_zero, Exs]
          iterate 16 apply Exists.intro
          apply Run.valG (wanted_none rfl _)
          · intro w1 h1 hk
            have q1 := h1.cell x0; have q2 := h1.cell y0
            have hcw := fun b o => Below.cell (p := ⟨b, o, none⟩) h1
            go_simp; rfl
          simp only [Act.put, List.setIfInBounds_toArray, List.set_cons_succ, List.set_cons_zero, List.nil_append, List.cons_append]
          apply Run.valG (wanted_none rfl _)
          · intro w1 h1 hk
            have q1 := h1.cell x0; have q2 := h1.cell y0
            have hcw := fun b o => Below.cell (p := ⟨b, o, none⟩) h1
            go_simp; rfl
          simp only [Act.put, List.setIfInBounds_toArray, List.set_cons_succ, List.set_cons_zero, List.nil_append, List.cons_append]
          apply Run.valG (wanted_none rfl _)
          · intro w1 h1 hk
            have q1 := h1.cell x0; have q2 := h1.cell y0
            have hcw := fun b o => Below.cell (p := ⟨b, o, none⟩) h1
            go_simp; rfl
          simp only [Act.put, List.setIfInBounds_toArray, List.set_cons_succ, List.set_cons_zero, List.nil_append, List.cons_append]
          apply Run.valG (by go_simp)
          · intro w1 h1 hk
            have q1 := h1.cell x0; have q2 := h1.cell y0
            have hcw := fun b o => Below.cell (p := ⟨b, o, none⟩) h1
            go_simp; rfl
          simp only [Act.put, List.setIfInBounds_toArray, List.set_cons_succ, List.set_cons_zero, List.nil_append, List.cons_append]
          apply Run.valG (by go_simp)
          · intro w1 h1 hk
            have q1 := h1.cell x0; have q2 := h1.cell y0
            have hcw := fun b o => Below.cell (p := ⟨b, o, none⟩) h1
            go_simp; rfl
          simp only [Act.put, List.setIfInBounds_toArray, List.set_cons_succ, List.set_cons_zero, List.nil_append, List.cons_append]
          apply Run.valG (by go_simp)
          · intro w1 h1 hk
            have q1 := h1.cell x0; have q2 := h1.cell y0
            have hcw := fun b o => Below.cell (p := ⟨b, o, none⟩) h1
            go_simp; rfl
          simp only [Act.put, List.setIfInBounds_toArray, List.set_cons_succ, List.set_cons_zero, List.nil_append, List.cons_append]
          apply Run.valG (by go_simp)
          · intro w1 h1 hk
            have q1 := h1.cell x0; have q2 := h1.cell y0
            have hcw := fun b o => Below.cell (p := ⟨b, o, none⟩) h1
            go_simp; rfl
          simp only [Act.put, List.setIfInBounds_toArray, List.set_cons_succ, List.set_cons_zero, List.nil_append, List.cons_append]
          apply Run.valG (by go_simp)
          · intro w1 h1 hk
            have q1 := h1.cell x0; have q2 := h1.cell y0
            have hcw := fun b o => Below.cell (p := ⟨b, o, none⟩) h1
            go_simp; rfl
          simp only [Act.put, List.setIfInBounds_toArray, List.set_cons_succ, List.set_cons_zero, List.nil_append, List.cons_append]
          apply Run.valG (by go_simp)
          · intro w1 h1 hk
            have q1 := h1.cell x0; have q2 := h1.cell y0
            have hcw := fun b o => Below.cell (p := ⟨b, o, none⟩) h1
            go_simp; rfl
          simp only [Act.put, List.setIfInBounds_toArray, List.set_cons_succ, List.set_cons_zero, List.nil_append, List.cons_append]
          apply Run.valG (by go_simp)
          · intro w1 h1 hk
            have q1 := h1.cell x0; have q2 := h1.cell y0
            have hcw := fun b o => Below.cell (p := ⟨b, o, none⟩) h1
            go_simp; rfl
          simp only [Act.put, List.setIfInBounds_toArray, List.set_cons_succ, List.set_cons_zero, List.nil_append, List.cons_append]
          apply Run.valG (by go_simp)
          · intro w1 h1 hk
            have q1 := h1.cell x0; have q2 := h1.cell y0
            have hcw := fun b o => Below.cell (p := ⟨b, o, none⟩) h1
            go_simp; rfl
          simp only [Act.put, List.setIfInBounds_toArray, List.set_cons_succ, List.set_cons_zero, List.nil_append, List.cons_append]
          apply Run.valG (by go_simp)
          · intro w1 h1 hk
            have q1 := h1.cell x0; have q2 := h1.cell y0
            have hcw := fun b o => Below.cell (p := ⟨b, o, none⟩) h1
            go_simp; rfl
          simp only [Act.put, List.setIfInBounds_toArray, List.set_cons_succ, List.set_cons_zero, List.nil_append, List.cons_append]
          apply Run.valG (by go_simp)
          · intro w1 h1 hk
            have q1 := h1.cell x0; have q2 := h1.cell y0
            have hcw := fun b o => Below.cell (p := ⟨b, o, none⟩) h1
            go_simp; rfl
          simp only [Act.put, List.setIfInBounds_toArray, List.set_cons_succ, List.set_cons_zero, List.nil_append, List.cons_append]
          apply Run.valG (by go_simp)
          · intro w1 h1 hk
            have q1 := h1.cell x0; have q2 := h1.cell y0
            have hcw := fun b o => Below.cell (p := ⟨b, o, none⟩) h1
            go_simp; rfl
          simp only [Act.put, List.setIfInBounds_toArray, List.set_cons_succ, List.set_cons_zero, List.nil_append, List.cons_append]
          apply Run.valG (by go_simp)
          · intro w1 h1 hk
            have q1 := h1.cell x0; have q2 := h1.cell y0
            have hcw := fun b o => Below.cell (p := ⟨b, o, none⟩) h1
            go_simp; rfl
          simp only [Act.put, List.setIfInBounds_toArray, List.set_cons_succ, List.set_cons_zero, List.nil_append, List.cons_append]
          apply Run.valG (wanted_none rfl _)
          · intro w1 h1 hk
            have q1 := h1.cell x0; have q2 := h1.cell y0
            have hcw := fun b o => Below.cell (p := ⟨b, o, none⟩) h1
            go_simp; rfl
          simp only [Act.put, List.setIfInBounds_toArray, List.set_cons_succ, List.set_cons_zero, List.nil_append, List.cons_append]
          apply Run.done
          intro w2 h2 hk
          clear hk
          have F2 := (Fut.drew _).trans h2
          have hGn := Lib.hid (hG.out.trans F2)
          have hFn := Lib.hid (hF.out.fut RSz.stays F2)
          replace hsame := Lib.hid hsame
          clear h2 F2
          go_wp2
          go_roundw
          case rel => exact ⟨m + 1 + 1, by omega, by go_num, by rw [hsame.out]; exact hFn, hGn⟩
          case measure => simp [intOf] <;> omega
    · obtain rfl : k = X.length := by omega
      rw [heads_all] at hF
      have hs1 := F1.out.size
      have hO2 := Lib.hid (OwnSz.base hF.out hs1)
      have F2 := Lib.hid (F1.out.trans hG.out)
      clear hF
      go_wp2
      go_ret
      exact ⟨_, rfl, hO2.out, F2.out⟩
end Go.Proofs.YtkdnplebgmmclaaDoor
