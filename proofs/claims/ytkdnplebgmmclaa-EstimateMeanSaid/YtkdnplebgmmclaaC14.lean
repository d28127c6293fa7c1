/- Sizes -/
import Derived.Test.YtkdnplebgmmclaaC13
/- Sizes: the program's. (printed by sizes.py) -/
namespace Go.Proofs.Ytkdnplebgmmclaa
open Go.RowKit Go.WideMaps Go.Maps
set_option linter.unusedSimpArgs false
set_option linter.unusedVariables false

theorem zeroPC (w : World) : (zeroValue 98).run Try.prog w = .ok (.pointer none) w := by kernel_rfl
theorem infoMp : (Try.prog.info? tMp).map (fun i => (i.zero, i.size, i.bytes)) = some (some (.map none), 1, 8) := by kernel_rfl
theorem SzI.look {B mb : Nat} {w : World} {es : List En} (h : SzI B w mb es) {p : ByteArray} (hp : p.size ≤ maxLen) :
    (Instr.lookup 97 (.map (some mb)) (.string p) false).run Try.prog w = .ok ((getE (es.map En.entry) p).getD (.pointer none)) w :=
  (h.map.look keyStr h.ok Try.underlying97 zeroPC hp).1
theorem getE_en {es : List En} {N : List ByteArray} {Y : List Fc} (h : CntI es N Y) {j : Nat} {e : En} (hj : es[j]? = some e) : getE (es.map En.entry) e.p = some (.pointer (some ⟨e.blk, 0, none⟩)) := by
  refine getE_at (j := j) ?_ ?_
  · have : (es.map En.entry).map (·.1) = es.map (·.p) := by rw [List.map_map]; rfl
    rw [this, h.names]; exact ddV_nodup _
  · rw [List.getElem?_map, hj]; rfl
theorem RMp.keeps {e : TypeId} : Keeps e RMp := fun _ _ _ _ _ h _ _ => h
set_option maxHeartbeats 2000000 in
set_option maxRecDepth 100000 in
theorem sizes_of (a : Value) (X : List Fc) (w : World) (hF : ∀ w0, Fut w w0 → Calls Try.prog 17 #[a] w0 fun e w' => ∃ v, e = .returned v ∧ OwnL 2 w0.heap.size 33 (RGo w0.heap.size 29) w' v X ∧ Fut w0 w') (hX : X.length ≤ 1048576) (hl : ∀ t ∈ X, t.a.length ≤ 4398046511104) (hP : ∀ f ∈ X, ∀ v ∈ f.a, v.ok) (hform : ∃ A0 n0 cap0, a = .slice A0 n0 cap0) :
    Calls Try.prog 16 #[a] w fun e w' => ∃ v, e = .returned v ∧ OwnL 3 w.heap.size 64 (RSz w.heap.size) w' v (sizesOf X) ∧ Fut w w' := by
  have HF := Lib.hid hF
  have HL := Lib.hid hl
  have HK := Lib.hid hP
  obtain ⟨A0, n0, cap0, rfl⟩ := hform
  clear hF hl hP
  go_enter Try.func16, Try.ntmps16
  have hmm := @run_makeMap Try.prog
  go_wp2_with fail
  clear hmm
  have hZ0 := SzI.new (B := w.heap.size + 1) w
  have f0 := Fut.alloc w (.map #[] 0)
  obtain ⟨w0, hW⟩ : ∃ W, w.alloc (.map #[] 0) = W := ⟨_, rfl⟩
  have hs00 : (w.alloc (.map #[] 0)).heap.size = w.heap.size + 1 := by simp
  rw [hW] at hZ0 f0 hs00 ⊢
  clear hW
  refine (HF.out w0 f0).mono ?_
  rintro e w1 ⟨v, rfl, hO, f1⟩
  have HO := Lib.hid hO
  have HZ0 := Lib.hid (show SzI w1.heap.size w1 w.heap.size [] from ⟨(hZ0.fut f1).map, fun i e h => by simp at h, fun i j e e' h => by simp at h, fun i e h => by simp at h⟩)
  have hs0 : w0.heap.size = w.heap.size + 1 := hs00
  have hs1 := f1.size
  have F1 := Lib.hid (f0.trans f1)
  obtain ⟨A, cap, rfl, hcl, hcm⟩ := hO.rep.form
  clear hO f0 f1 HF hZ0
  go_wp2_with fail
  go_loopw [19] (fun i wr => ∃ (k : Nat) (es : List En), k ≤ X.length ∧ i = .int .i64 k ∧ Hid (SzI w1.heap.size wr w.heap.size es) ∧ Hid (CntI es ((X.take k).map (·.p)) (X.take k)) ∧ Hid (Only (fun k => k = w.heap.size ∨ w1.heap.size ≤ k) w1 wr)) (fun i _ => X.length - (intOf i).toNat)
  case atStart => exact ⟨0, [], Nat.zero_le _, rfl, HZ0, Lib.hid CntI.nil, Lib.hid (Only.refl _)⟩
  case round =>
    obtain ⟨k, es, hk, rfl, hZ, hC, hG⟩ := hrel
    obtain ⟨wo, hwo⟩ : ∃ x, x = wr := ⟨_, rfl⟩
    subst hwo
    have hs2 : w1.heap.size ≤ wo.heap.size := hG.out.size
    by_cases hlt : k < X.length
    · obtain ⟨b, off, A', cp, rfl, hps, y0, y1, hvw⟩ := ownG_at HO.out hlt
      have hbl := HO.out.block b rfl
      have x0 := hG.out.cell y0 (by show ¬ (b = w.heap.size ∨ w1.heap.size ≤ b); omega)
      have x1 := hG.out.cell y1 (by show ¬ (b = w.heap.size ∨ w1.heap.size ≤ b); omega)
      have hv1 : ∀ q, (Value.slice A' (X[k]).a.length cp).ownBlock = some q → w0.heap.size ≤ q ∧ q < w1.heap.size := hvw.block
      have hv : OwnV w0.heap.size 29 wo (.slice A' (X[k]).a.length cp) (X[k]).a := OwnL.only hvw (fun _ _ h => h) hG.out (fun q hq hs => by have := hv1 q hq; omega)
      clear y0 y1 hvw hbl
      have hnx : X.take (k + 1) = X.take k ++ [X[k]] := List.take_succ_eq_append_getElem hlt
      have hfl : X[k].a.length ≤ 4398046511104 := HL.out _ (List.getElem_mem hlt)
      have hfk : Hid (∀ v ∈ X[k].a, v.ok) := Lib.hid (HK.out _ (List.getElem_mem hlt))
      generalize X[k] = f at *
      have hltI : (k : Int) < X.length := by omega
      have e0 : (0 : Int) ≤ k ∧ (k : Int) < X.length := by omega
      have hpm : f.p.size ≤ maxLen := Nat.le_trans hps (by unfold maxLen; omega)
      have hV1 : ∀ q, (Value.slice A' f.a.length cp).ownBlock = some q → w0.heap.size ≤ q ∧ q < w1.heap.size := hv1
      have HV := Lib.hid hv
      clear hv hv1
      by_cases hex : ∃ (j : Nat) (e : En), es[j]? = some e ∧ e.p = f.p
      · obtain ⟨j, e, hj, hep⟩ := hex
        have hlk : ∀ o, (Instr.lookup 97 (.map (some w.heap.size)) (.string f.p) false).run Try.prog (wo.alloc o) = .ok (.pointer (some ⟨e.blk, 0, none⟩)) (wo.alloc o) := fun o => by
          rw [(hZ.out.fut (Fut.alloc wo o)).look hpm, ← hep, getE_en hC.out hj]; rfl
        have c00 : ∀ o, (wo.alloc o).cell? ⟨e.blk, 0, none⟩ = some (.int .i64 e.rows) := fun o => (Fut.alloc wo o).cell (cell_at (hZ.out.each j e hj).1.cell 0 _ rfl)
        have fb := Fut.alloc wo (.cells #[Value.string f.p, Value.slice A' f.a.length cp] 33)
        have hbx := heap_alloc_new wo (.cells #[Value.string f.p, Value.slice A' f.a.length cp] 33)
        have hs3 : (wo.alloc (.cells #[Value.string f.p, Value.slice A' f.a.length cp] 33)).heap.size = wo.heap.size + 1 := by simp
        obtain ⟨wj, hwj⟩ : ∃ W, wo.alloc (.cells #[Value.string f.p, Value.slice A' f.a.length cp] 33) = W := ⟨_, rfl⟩
        rw [hwj] at fb hbx hs3
        replace hwj := Lib.hid hwj
        have hZj := Lib.hid (hZ.out.fut fb)
        have hCj := Lib.hid (hC.out.old ⟨e, List.mem_of_getElem? hj, hep⟩)
        have hBj := Lib.hid hbx
        have hVj := Lib.hid (HV.out.fut RV.stays fb)
        have hGj := Lib.hid (hG.out.then (Only.fut fb (S := fun _ => False)) (fun y h _ => h.elim))
        have hft : ¬ e.foot wo.heap.size := fun h => by have := ((hZ.out.each j e hj).1.lt _ h).2; omega
        have hrk : e.rows ≤ k := by
          rw [hC.out.rows e (List.mem_of_getElem? hj)]
          exact Nat.le_trans (List.length_filter_le _ _) (by simp; omega)
        clear fb hbx hZ hC HV hG
        have hs3 : wo.heap.size < wj.heap.size := by omega
        have hE := (hZj.out.each j e hj).1
        have hwrap : IntKind.i64.wrap ((e.rows : Int) + 1) = ((e.rows + 1 : Nat) : Int) := by rw [IntKind.wrap_i64]; omega
        have c0 : wj.cell? ⟨e.blk, 0, none⟩ = some (.int .i64 e.rows) := cell_at hE.cell 0 _ rfl
        have z0 : wj.frozen? ⟨e.blk, 0, none⟩ = false := free_at hE.cell 0
        have ebl : e.blk < wj.heap.size := (Array.getElem?_eq_some_iff.1 hE.cell).1
        have hi3 : (Try.prog.info? 3).map (·.size) = some 1 := by kernel_rfl
        obtain ⟨w4, hw4⟩ : ∃ W, wj.setCell ⟨e.blk, 0, none⟩ (.int .i64 ((e.rows + 1 : Nat) : Int)) = W := ⟨_, rfl⟩
        have O4 : Only (fun q => q = e.blk) wj w4 := hw4 ▸ Only.set _ _ rfl
        have hb4 := O4.keeps hBj.out (fun h => hft (.inl h))
        have cb1 := cell_at hb4 1 (.slice A' f.a.length cp) rfl
        have hZ4 : SzI w1.heap.size w4 w.heap.size (es.set j { e with rows := e.rows + 1 }) := hZj.out.upd hj O4 (fun q hq => .inl (.inl hq)) (hw4 ▸ hE.row _) rfl rfl (fun q hq => .inl hq)
        have hs4 := O4.size
        have hw5 : wj.setCell ⟨e.blk, 0, none⟩ (.int .i64 ((e.rows : Int) + 1)) = w4 := hw4
        go_wp2_with (first | (refine wpList_store_1 (wanted_none rfl _) _ _ rfl rfl rfl hi3 rfl c0 z0 hw4 ?_) | (refine wpList_store_1 (wanted_none rfl _) _ _ rfl rfl rfl hi3 rfl c0 z0 hw5 ?_) | (refine wpList_store_1 (wanted_none rfl _) _ _ rfl rfl rfl hi3 rfl (hwj.out ▸ c0) (hwj.out ▸ z0) (hwj.out ▸ hw5) ?_))
        try clear hlk c00
        have hV4 : OwnV w0.heap.size 29 w4 (.slice A' f.a.length cp) f.a := hVj.out.only (fun _ _ h => h) O4 (fun q hq (e1 : q = e.blk) => by
          have h2 := hE.low.1
          have h3 := hV1 q hq
          omega)
        have ef : ∀ q, e.foot q → w1.heap.size ≤ q ∧ q < wj.heap.size := hE.lt
        have HV4 := Lib.hid hV4
        have HZ4 := Lib.hid hZ4
        have O4' := Lib.hid (O4.mono (S' := fun y => e.foot y ∨ wj.heap.size ≤ y) fun y _ hy => .inl (.inl hy))
        clear hb4 cb1 hZ4 hV4 O4 hw5 hw4 c0 z0 hE hBj hZj hVj
        go_loopw [45] (fun i wi => ∃ (q : Nat) (e' : En), q ≤ f.a.length ∧ i = .int .i64 q ∧ Hid (SzI w1.heap.size wi w.heap.size (es.set j e')) ∧ e'.p = e.p ∧ e'.blk = e.blk ∧ e'.rows = e.rows + 1 ∧ e'.cols.map (·.2) = stepA (e.cols.map (·.2)) 0 (f.a.take q) ∧ Hid (∀ x, e'.foot x → e.foot x ∨ wj.heap.size ≤ x) ∧ Hid (Only (fun x => e.foot x ∨ wj.heap.size ≤ x) w4 wi)) (fun i _ => f.a.length - (intOf i).toNat)
        case atStart => exact ⟨0, { e with rows := e.rows + 1 }, Nat.zero_le _, rfl, HZ4, rfl, rfl, rfl, by rw [List.take_zero]; rfl, Lib.hid (fun x hx => .inl hx), Lib.hid (Only.refl _)⟩
        case round =>
          obtain ⟨q, e', hq, rfl, hZi, hpi, hbi, hri, hci, hfi, hOi⟩ := hrel
          by_cases hql : q < f.a.length
          · have hVi : OwnV w0.heap.size 29 wr (.slice A' f.a.length cp) f.a := OwnL.only HV4.out (fun _ _ h => h) hOi.out (fun y hy hs => by
              have h1 := hV1 y hy
              rcases hs with h2 | h2
              · have := ef y h2; omega
              · omega)
            obtain ⟨b2, off2, rfl, hok, u0, u1, u2⟩ := hVi.vals.at_ hql
            have hvok := hfk.out _ (List.getElem_mem hql)
            have hfs : stepA (e.cols.map (·.2)) 0 (f.a.take (q + 1)) = stepC (e'.cols.map (·.2)) q f.a[q] := by
              rw [List.take_succ_eq_append_getElem hql, stepA_snoc, ← hci, List.length_take, Nat.min_eq_left (by omega), Nat.zero_add]
            have hcl2 : e'.cols.length = max e.cols.length q := by
              have h1 := congrArg List.length hci
              rw [stepA_len _ _ _ (Nat.zero_le _), List.length_map, List.length_map, List.length_take, Nat.min_eq_left (by omega), Nat.zero_add] at h1
              exact h1
            have hjs : (es.set j e')[j]? = some e' := by rw [List.getElem?_set, if_pos rfl, if_pos (List.getElem?_eq_some_iff.1 hj).1]
            have hEi := (hZi.out.each j e' hjs).1
            generalize f.a[q] = z at *
            obtain ⟨p', blk', rows', lv, cols⟩ := e'
            dsimp only at hpi hbi hri hci hfs hcl2 hEi hfi hjs hZi
            subst hpi hbi hri
            obtain ⟨A7, c7, rfl, hc7, _⟩ := hEi.list.rep.form
            rw [List.length_map] at hEi hjs hZi hfi hc7
            have hqI : (q : Int) < f.a.length := by omega
            have e1 : (0 : Int) ≤ q ∧ (q : Int) < f.a.length := by omega
            have d1 : ∀ o, (wr.alloc o).cell? ⟨e.blk, 1, none⟩ = some (.slice A7 cols.length c7) := fun o => (Fut.alloc wr o).cell (cell_at hEi.cell 1 _ rfl)
            have hqc : q ≤ cols.length := by omega
            clear hcl2
            replace hci := Lib.hid hci
            replace hfs := Lib.hid hfs
            replace hjs := Lib.hid hjs
            replace hEi := Lib.hid hEi
            have hob := Only.fut (S := fun x => e.foot x ∨ wj.heap.size ≤ x) (Fut.alloc wr (.cells #[.int .i8 z.k, .int .i64 z.n, .string z.s] 29))
            have hs6 : wj.heap.size ≤ wr.heap.size := by have := hOi.out.size; omega
            by_cases hqe : q = cols.length
            · subst hqe
              have hA1 : (wr.alloc (.cells #[.int .i8 z.k, .int .i64 z.n, .string z.s] 29)).heap.size = wr.heap.size + 1 := by simp
              have hA2 : ((wr.alloc (.cells #[.int .i8 z.k, .int .i64 z.n, .string z.s] 29)).alloc (.map #[] 0)).heap.size = wr.heap.size + 1 + 1 := by simp
              have hA3 : (((wr.alloc (.cells #[.int .i8 z.k, .int .i64 z.n, .string z.s] 29)).alloc (.map #[] 0)).alloc (.cells #[.map (some (wr.heap.size + 1))] tMp)).heap.size = wr.heap.size + 1 + 1 + 1 := by simp
              have hM0 : MapE V.val ((wr.alloc (.cells #[.int .i8 z.k, .int .i64 z.n, .string z.s] 29)).alloc (.map #[] 0)) (wr.heap.size + 1) [] := hA1 ▸ MapE.new _
              have hu0 := mpOne ((wr.alloc (.cells #[.int .i8 z.k, .int .i64 z.n, .string z.s] 29)).alloc (.map #[] 0)) (wr.heap.size + 1)
              rw [hA2] at hu0
              have FW0 := ((Fut.alloc wr (.cells #[.int .i8 z.k, .int .i64 z.n, .string z.s] 29)).trans (Fut.alloc _ (.map #[] 0))).trans (Fut.alloc _ (.cells #[.map (some (wr.heap.size + 1))] tMp))
              have hM1 := hM0.fut (Fut.alloc _ (.cells #[.map (some (wr.heap.size + 1))] tMp))
              have hX0 := ((Fut.alloc (wr.alloc (.cells #[.int .i8 z.k, .int .i64 z.n, .string z.s] 29)) (.map #[] 0)).trans (Fut.alloc _ (.cells #[.map (some (wr.heap.size + 1))] tMp))).block (boxV wr z 29)
              obtain ⟨W, hW⟩ : ∃ W, (((wr.alloc (.cells #[.int .i8 z.k, .int .i64 z.n, .string z.s] 29)).alloc (.map #[] 0)).alloc (.cells #[.map (some (wr.heap.size + 1))] tMp)) = W := ⟨_, rfl⟩
              rw [hW] at hu0 FW0 hM1 hX0 hA3
              replace hW := Lib.hid hW
              replace hu0 := Lib.hid hu0
              replace FW0 := Lib.hid FW0
              replace hM1 := Lib.hid hM1
              replace hX0 := Lib.hid hX0
              have hOW := Lib.hid (hEi.out.list.fut RMp.stays FW0.out)
              have hmm := @run_makeMap Try.prog
              clear hA1 hA2 hM0
              replace hA3 := Lib.hid hA3
              go_wp2_with (first | (at_builtin; refine wpList_append_LB (R := RMp) (B := w1.heap.size) (M := 1) (xs := cols.map (·.1)) (ys := [wr.heap.size + 1]) (e := tMp) (by go_simp) _ _ 99 rfl Try.underlying99 (.map none) 8 infoMp rfl (by decide) RMp.one RMp.keeps rfl rfl (by rw [hW.out]; exact hOW.out) (by rw [hW.out]; exact hu0.out) ?l3 ?l4 ?b3 ?k3))
              case l3 => simp [maxLen]; omega
              case l4 => first | omega | (simp; omega)
              case b3 => first | omega | (rw [hW.out, hA3.out]; omega)
              case k3 =>
              intro v' w' o' g' sn'
              rw [hW.out] at g' sn'
              have hgr := hEi.out.grow FW0.out hM1.out (by omega) (by omega) o' g' sn'
              obtain ⟨A8, c8, rfl, hc8, _⟩ := o'.rep.form
              rw [List.length_append, List.length_map, List.length_singleton] at hgr hc8 ⊢
              obtain ⟨hE5, x1, x2, O5, hf5⟩ := hgr
              have hX1 : w'.heap[wr.heap.size]? = _ := (Only.grown (S := fun y => Value.ownBlock (.slice A7 cols.length c7) = some y) g' fun y hy => hy).keeps hX0.out (fun hy => by have := (hEi.out.list.block _ hy).2; omega)
              obtain ⟨w5, hw5⟩ : ∃ W, w'.setCell ⟨e.blk, 1, none⟩ (.slice A8 (cols.length + 1) c8) = W := ⟨_, rfl⟩
              rw [hw5] at hE5 O5
              have hi46 : (Try.prog.info? 99).map (·.size) = some 1 := by kernel_rfl
              have O5x : Only (fun y => y = e.blk) w' w5 := hw5 ▸ Only.set _ _ rfl
              have hX5 := O5x.keeps hX1 (fun hy => by have := hEi.out.lt _ (.inl rfl); omega)
              clear O5x
              go_wp2_with (first | (refine wpList_store_1 (wanted_none rfl _) _ _ rfl rfl rfl hi46 rfl x1 x2 hw5 ?_))
              have hZ5 := hZi.out.upd hjs.out O5 (fun y hy => hy) (e' := ⟨e.p, e.blk, e.rows + 1, .slice A8 (cols.length + 1) c8, cols ++ [(wr.heap.size + 1, [])]⟩) hE5 rfl rfl hf5
              rw [List.set_set] at hZ5
              have hcs : (cols ++ [(wr.heap.size + 1, ([] : List V))])[cols.length]? = some (wr.heap.size + 1, []) := by simp
              have hm6 : ((cols ++ [(wr.heap.size + 1, [])] : List Col).set cols.length (wr.heap.size + 1, addV [] z)).map (·.2) = stepC (cols.map (·.2)) cols.length z := by
                have h9 := stepC_new (C := cols.map (·.2)) z
                rw [List.length_map] at h9
                rw [List.map_set, List.map_append, h9]; rfl
              have hl5 : cols.length < (cols ++ [(wr.heap.size + 1, ([] : List V))] : List Col).length := by simp
              have hll : cols.length + 1 = (cols ++ [(wr.heap.size + 1, ([] : List V))] : List Col).length := by simp
              rw [hll] at hE5 hZ5 ⊢
              have hf6 : ∀ y, (⟨e.p, e.blk, e.rows + 1, .slice A8 (cols ++ [(wr.heap.size + 1, ([] : List V))] : List Col).length c8, cols ++ [(wr.heap.size + 1, [])]⟩ : En).foot y → e.foot y ∨ wj.heap.size ≤ y := fun y hy => by
                rw [← hll] at hy
                rcases hf5 y hy with h9 | h9
                · exact hfi.out y h9
                · exact .inr (by omega)
              have OO5 : Only (fun x => e.foot x ∨ wj.heap.size ≤ x) wr w5 := O5.mono fun y _ hy => hy.elim (fun h9 => hfi.out y h9) fun h9 => .inr (by omega)
              generalize (cols ++ [(wr.heap.size + 1, ([] : List V))] : List Col) = cols5 at *
              generalize hmb : wr.heap.size + 1 = mc at *
              clear hmb hll hW hu0 FW0 hM1 hX0 hOW hA3 g' sn' o' hw5 x1 x2 O5 hf5 hX1
              generalize hq0 : cols.length = q at *
              replace hq0 := Lib.hid hq0
              have hjl := (List.getElem?_eq_some_iff.1 hj).1
              have hj5 : (es.set j ⟨e.p, e.blk, e.rows + 1, .slice A8 cols5.length c8, cols5⟩)[j]? = some ⟨e.p, e.blk, e.rows + 1, .slice A8 cols5.length c8, cols5⟩ := by rw [List.getElem?_set, if_pos rfl, if_pos hjl]
              have y1 := cell_at hE5.cell 1 _ rfl
              have hat := mp_at (k := q) hE5.list.rep (by rw [List.length_map]; exact hl5)
              obtain ⟨b7, off7, hA8, y2⟩ := hat
              subst hA8
              have hcq : (cols5.map (·.1))[q]'(by rw [List.length_map]; exact hl5) = mc := by
                rw [List.getElem_map]
                have h9 := List.getElem?_eq_getElem hl5
                rw [hcs] at h9
                injection h9 with h9
                rw [← h9]
              rw [hcq] at y2
              have y3 := cell_at hX5 0 (.int .i8 z.k) rfl
              have y4 := cell_at hX5 1 (.int .i64 z.n) rfl
              have y5 := cell_at hX5 2 (.string z.s) rfl
              have hlI : (0 : Int) ≤ q ∧ (q : Int) < cols5.length := by omega
              replace hX5 := Lib.hid hX5
              replace hE5 := Lib.hid hE5
              replace hZ5 := Lib.hid hZ5
              replace hcs := Lib.hid hcs
              replace hm6 := Lib.hid hm6
              clear hcq
              refine wp_graph 9 [.d, .d, .d, .d, .d, .d, .d, .d, .d] (by kernel_rfl) (by kernel_rfl) (by kernel_rfl) ?_
              simp only [List.take_succ_cons, List.take_zero, List.drop_succ_cons, List.drop_zero, Exs]
              iterate 9 apply Exists.intro
              apply Run.valG (wanted_none rfl _)
              · intro w1 h1 hk
                have q1 := h1.cell y1; have q2 := h1.cell y2; have q3 := h1.cell y3; have q4 := h1.cell y4; have q5 := h1.cell y5
                have hcw := fun b o => Below.cell (p := ⟨b, o, none⟩) h1
                go_simp; rfl
              simp only [Act.put, List.setIfInBounds_toArray, List.set_cons_succ, List.set_cons_zero, List.nil_append, List.cons_append]
              apply Run.valG (wanted_none rfl _)
              · intro w1 h1 hk
                have q1 := h1.cell y1; have q2 := h1.cell y2; have q3 := h1.cell y3; have q4 := h1.cell y4; have q5 := h1.cell y5
                have hcw := fun b o => Below.cell (p := ⟨b, o, none⟩) h1
                go_simp; rfl
              simp only [Act.put, List.setIfInBounds_toArray, List.set_cons_succ, List.set_cons_zero, List.nil_append, List.cons_append]
              apply Run.valG (wanted_none rfl _)
              · intro w1 h1 hk
                have q1 := h1.cell y1; have q2 := h1.cell y2; have q3 := h1.cell y3; have q4 := h1.cell y4; have q5 := h1.cell y5
                have hcw := fun b o => Below.cell (p := ⟨b, o, none⟩) h1
                go_simp; rfl
              simp only [Act.put, List.setIfInBounds_toArray, List.set_cons_succ, List.set_cons_zero, List.nil_append, List.cons_append]
              apply Run.valG (wanted_none rfl _)
              · intro w1 h1 hk
                have q1 := h1.cell y1; have q2 := h1.cell y2; have q3 := h1.cell y3; have q4 := h1.cell y4; have q5 := h1.cell y5
                have hcw := fun b o => Below.cell (p := ⟨b, o, none⟩) h1
                go_simp; rfl
              simp only [Act.put, List.setIfInBounds_toArray, List.set_cons_succ, List.set_cons_zero, List.nil_append, List.cons_append]
              apply Run.valG (wanted_none rfl _)
              · intro w1 h1 hk
                have q1 := h1.cell y1; have q2 := h1.cell y2; have q3 := h1.cell y3; have q4 := h1.cell y4; have q5 := h1.cell y5
                have hcw := fun b o => Below.cell (p := ⟨b, o, none⟩) h1
                go_simp; rfl
              simp only [Act.put, List.setIfInBounds_toArray, List.set_cons_succ, List.set_cons_zero, List.nil_append, List.cons_append]
              apply Run.valG (wanted_none rfl _)
              · intro w1 h1 hk
                have q1 := h1.cell y1; have q2 := h1.cell y2; have q3 := h1.cell y3; have q4 := h1.cell y4; have q5 := h1.cell y5
                have hcw := fun b o => Below.cell (p := ⟨b, o, none⟩) h1
                go_simp; rfl
              simp only [Act.put, List.setIfInBounds_toArray, List.set_cons_succ, List.set_cons_zero, List.nil_append, List.cons_append]
              apply Run.valG (wanted_none rfl _)
              · intro w1 h1 hk
                have q1 := h1.cell y1; have q2 := h1.cell y2; have q3 := h1.cell y3; have q4 := h1.cell y4; have q5 := h1.cell y5
                have hcw := fun b o => Below.cell (p := ⟨b, o, none⟩) h1
                go_simp; rfl
              simp only [Act.put, List.setIfInBounds_toArray, List.set_cons_succ, List.set_cons_zero, List.nil_append, List.cons_append]
              apply Run.valG (wanted_none rfl _)
              · intro w1 h1 hk
                have q1 := h1.cell y1; have q2 := h1.cell y2; have q3 := h1.cell y3; have q4 := h1.cell y4; have q5 := h1.cell y5
                have hcw := fun b o => Below.cell (p := ⟨b, o, none⟩) h1
                go_simp; rfl
              simp only [Act.put, List.setIfInBounds_toArray, List.set_cons_succ, List.set_cons_zero, List.nil_append, List.cons_append]
              apply Run.valG (wanted_none rfl _)
              · intro w1 h1 hk
                have q1 := h1.cell y1; have q2 := h1.cell y2; have q3 := h1.cell y3; have q4 := h1.cell y4; have q5 := h1.cell y5
                have hcw := fun b o => Below.cell (p := ⟨b, o, none⟩) h1
                go_simp; rfl
              simp only [Act.put, List.setIfInBounds_toArray, List.set_cons_succ, List.set_cons_zero, List.nil_append, List.cons_append]
              apply Run.done
              intro w2 h2 hk
              clear hk
              have F6 := (Fut.drew _).trans h2
              clear h2 y1 y2 y3 y4 y5 hX5
              have hE6 := hE5.out.fut F6
              have hM6 := hE6.maps q _ hcs.out
              go_wp2_with (first | (refine wpList_mapAdd (v := z) (by first | rfl | go_simp) _ _ _ rfl rfl rfl rfl hM6.1 hM6.2 hvok ?km2))
              case km2 =>
              intro w7 hm7 hg7
              have hE7 := hE6.put hcs.out hg7 hm7 (fun x hx => (mem_addV.1 hx).elim (hM6.2 x) fun h9 => h9 ▸ hvok)
              have O7 : Only (fun y => y = mc) w2 w7 := Only.grown hg7 fun y hy => by injection hy with hy; exact hy.symm
              have hmf : (⟨e.p, e.blk, e.rows + 1, .slice (some ⟨b7, off7, none⟩) cols5.length c8, cols5⟩ : En).foot mc := .inr (.inr ⟨_, List.mem_of_getElem? hcs.out, rfl⟩)
              have hZ7 := (hZ5.out.fut F6).upd hj5 O7 (fun y hy => .inl (hy ▸ hmf)) (e' := ⟨e.p, e.blk, e.rows + 1, .slice (some ⟨b7, off7, none⟩) cols5.length c8, _⟩) hE7 rfl rfl (fun y hy => .inl (foot_put hcs.out hy))
              rw [List.set_set] at hZ7
              have hOe := Lib.hid (hOi.out.then ((OO5.then (Only.fut (S := fun _ => False) F6) fun y h9 _ => h9.elim).then O7 (fun y hy _ => by subst hy; exact hf6 _ hmf)) (fun y hy _ => hy))
              have hff : Hid (∀ y, (⟨e.p, e.blk, e.rows + 1, .slice (some ⟨b7, off7, none⟩) cols5.length c8, cols5.set q (mc, addV [] z)⟩ : En).foot y → e.foot y ∨ wj.heap.size ≤ y) := Lib.hid (fun y hy => hf6 y (foot_put hcs.out hy))
              replace hZ7 := Lib.hid hZ7
              clear hE7 hm7 hg7 O7 hE6 hM6 F6
              go_wp2
              go_roundw
              case rel => exact ⟨q + 1, _, by omega, by go_num, hZ7, rfl, rfl, rfl, by rw [hfs.out]; exact hm6.out, hff, hOe⟩
              case measure => first | (simp [intOf] <;> omega) | (have hq9 := hq0.out; simp [intOf] <;> omega)
            · have hqI : ¬ (q : Int) = cols.length := by omega
              go_wp2_with fail
              have F5 := Fut.alloc wr (.cells #[.int .i8 z.k, .int .i64 z.n, .string z.s] 29)
              have hX5 := boxV wr z 29
              obtain ⟨w5, hw5⟩ : ∃ W, wr.alloc (.cells #[.int .i8 z.k, .int .i64 z.n, .string z.s] 29) = W := ⟨_, rfl⟩
              rw [hw5] at F5 hX5 ⊢
              clear hw5 hqI
              have hl5 : q < cols.length := by omega
              have hE5 := hEi.out.fut F5
              have hZ5 := hZi.out.fut F5
              have hcs : cols[q]? = some (cols[q].1, cols[q].2) := List.getElem?_eq_getElem hl5
              have hm6 : (cols.set q (cols[q].1, addV cols[q].2 z)).map (·.2) = stepC (cols.map (·.2)) q z := by
                rw [stepC_put z (by rw [List.length_map]; exact hl5), List.map_set, List.getElem_map]
              have OO5 := Only.fut (S := fun x => e.foot x ∨ wj.heap.size ≤ x) F5
              have hf6 : ∀ y, (⟨e.p, e.blk, e.rows + 1, .slice A7 cols.length c7, cols⟩ : En).foot y → e.foot y ∨ wj.heap.size ≤ y := hfi.out
              generalize hcm : cols[q].1 = mc at *
              generalize hcl : cols[q].2 = lc at *
              clear hcm hcl F5
              have hjl := (List.getElem?_eq_some_iff.1 hj).1
              have hj5 : (es.set j ⟨e.p, e.blk, e.rows + 1, .slice A7 cols.length c7, cols⟩)[j]? = some ⟨e.p, e.blk, e.rows + 1, .slice A7 cols.length c7, cols⟩ := by rw [List.getElem?_set, if_pos rfl, if_pos hjl]
              have y1 := cell_at hE5.cell 1 _ rfl
              have hat := mp_at (k := q) hE5.list.rep (by rw [List.length_map]; exact hl5)
              obtain ⟨b7, off7, hA8, y2⟩ := hat
              subst hA8
              have hcq : (cols.map (·.1))[q]'(by rw [List.length_map]; exact hl5) = mc := by
                rw [List.getElem_map]
                have h9 := List.getElem?_eq_getElem hl5
                rw [hcs] at h9
                injection h9 with h9
                rw [← h9]
              rw [hcq] at y2
              have y3 := cell_at hX5 0 (.int .i8 z.k) rfl
              have y4 := cell_at hX5 1 (.int .i64 z.n) rfl
              have y5 := cell_at hX5 2 (.string z.s) rfl
              have hlI : (0 : Int) ≤ q ∧ (q : Int) < cols.length := by omega
              replace hX5 := Lib.hid hX5
              replace hE5 := Lib.hid hE5
              replace hZ5 := Lib.hid hZ5
              replace hcs := Lib.hid hcs
              replace hm6 := Lib.hid hm6
              clear hcq
              refine wp_graph 9 [.d, .d, .d, .d, .d, .d, .d, .d, .d] (by kernel_rfl) (by kernel_rfl) (by kernel_rfl) ?_
              simp only [List.take_succ_cons, List.take_zero, List.drop_succ_cons, List.drop_zero, Exs]
              iterate 9 apply Exists.intro
              apply Run.valG (wanted_none rfl _)
              · intro w1 h1 hk
                have q1 := h1.cell y1; have q2 := h1.cell y2; have q3 := h1.cell y3; have q4 := h1.cell y4; have q5 := h1.cell y5
                have hcw := fun b o => Below.cell (p := ⟨b, o, none⟩) h1
                go_simp; rfl
              simp only [Act.put, List.setIfInBounds_toArray, List.set_cons_succ, List.set_cons_zero, List.nil_append, List.cons_append]
              apply Run.valG (wanted_none rfl _)
              · intro w1 h1 hk
                have q1 := h1.cell y1; have q2 := h1.cell y2; have q3 := h1.cell y3; have q4 := h1.cell y4; have q5 := h1.cell y5
                have hcw := fun b o => Below.cell (p := ⟨b, o, none⟩) h1
                go_simp; rfl
              simp only [Act.put, List.setIfInBounds_toArray, List.set_cons_succ, List.set_cons_zero, List.nil_append, List.cons_append]
              apply Run.valG (wanted_none rfl _)
              · intro w1 h1 hk
                have q1 := h1.cell y1; have q2 := h1.cell y2; have q3 := h1.cell y3; have q4 := h1.cell y4; have q5 := h1.cell y5
                have hcw := fun b o => Below.cell (p := ⟨b, o, none⟩) h1
                go_simp; rfl
              simp only [Act.put, List.setIfInBounds_toArray, List.set_cons_succ, List.set_cons_zero, List.nil_append, List.cons_append]
              apply Run.valG (wanted_none rfl _)
              · intro w1 h1 hk
                have q1 := h1.cell y1; have q2 := h1.cell y2; have q3 := h1.cell y3; have q4 := h1.cell y4; have q5 := h1.cell y5
                have hcw := fun b o => Below.cell (p := ⟨b, o, none⟩) h1
                go_simp; rfl
              simp only [Act.put, List.setIfInBounds_toArray, List.set_cons_succ, List.set_cons_zero, List.nil_append, List.cons_append]
              apply Run.valG (wanted_none rfl _)
              · intro w1 h1 hk
                have q1 := h1.cell y1; have q2 := h1.cell y2; have q3 := h1.cell y3; have q4 := h1.cell y4; have q5 := h1.cell y5
                have hcw := fun b o => Below.cell (p := ⟨b, o, none⟩) h1
                go_simp; rfl
              simp only [Act.put, List.setIfInBounds_toArray, List.set_cons_succ, List.set_cons_zero, List.nil_append, List.cons_append]
              apply Run.valG (wanted_none rfl _)
              · intro w1 h1 hk
                have q1 := h1.cell y1; have q2 := h1.cell y2; have q3 := h1.cell y3; have q4 := h1.cell y4; have q5 := h1.cell y5
                have hcw := fun b o => Below.cell (p := ⟨b, o, none⟩) h1
                go_simp; rfl
              simp only [Act.put, List.setIfInBounds_toArray, List.set_cons_succ, List.set_cons_zero, List.nil_append, List.cons_append]
              apply Run.valG (wanted_none rfl _)
              · intro w1 h1 hk
                have q1 := h1.cell y1; have q2 := h1.cell y2; have q3 := h1.cell y3; have q4 := h1.cell y4; have q5 := h1.cell y5
                have hcw := fun b o => Below.cell (p := ⟨b, o, none⟩) h1
                go_simp; rfl
              simp only [Act.put, List.setIfInBounds_toArray, List.set_cons_succ, List.set_cons_zero, List.nil_append, List.cons_append]
              apply Run.valG (wanted_none rfl _)
              · intro w1 h1 hk
                have q1 := h1.cell y1; have q2 := h1.cell y2; have q3 := h1.cell y3; have q4 := h1.cell y4; have q5 := h1.cell y5
                have hcw := fun b o => Below.cell (p := ⟨b, o, none⟩) h1
                go_simp; rfl
              simp only [Act.put, List.setIfInBounds_toArray, List.set_cons_succ, List.set_cons_zero, List.nil_append, List.cons_append]
              apply Run.valG (wanted_none rfl _)
              · intro w1 h1 hk
                have q1 := h1.cell y1; have q2 := h1.cell y2; have q3 := h1.cell y3; have q4 := h1.cell y4; have q5 := h1.cell y5
                have hcw := fun b o => Below.cell (p := ⟨b, o, none⟩) h1
                go_simp; rfl
              simp only [Act.put, List.setIfInBounds_toArray, List.set_cons_succ, List.set_cons_zero, List.nil_append, List.cons_append]
              apply Run.done
              intro w2 h2 hk
              clear hk
              have F6 := (Fut.drew _).trans h2
              clear h2 y1 y2 y3 y4 y5 hX5
              have hE6 := hE5.out.fut F6
              have hM6 := hE6.maps q _ hcs.out
              go_wp2_with (first | (refine wpList_mapAdd (v := z) (by first | rfl | go_simp) _ _ _ rfl rfl rfl rfl hM6.1 hM6.2 hvok ?km2))
              case km2 =>
              intro w7 hm7 hg7
              have hE7 := hE6.put hcs.out hg7 hm7 (fun x hx => (mem_addV.1 hx).elim (hM6.2 x) fun h9 => h9 ▸ hvok)
              have O7 : Only (fun y => y = mc) w2 w7 := Only.grown hg7 fun y hy => by injection hy with hy; exact hy.symm
              have hmf : (⟨e.p, e.blk, e.rows + 1, .slice (some ⟨b7, off7, none⟩) cols.length c7, cols⟩ : En).foot mc := .inr (.inr ⟨_, List.mem_of_getElem? hcs.out, rfl⟩)
              have hZ7 := (hZ5.out.fut F6).upd hj5 O7 (fun y hy => .inl (hy ▸ hmf)) (e' := ⟨e.p, e.blk, e.rows + 1, .slice (some ⟨b7, off7, none⟩) cols.length c7, _⟩) hE7 rfl rfl (fun y hy => .inl (foot_put hcs.out hy))
              rw [List.set_set] at hZ7
              have hOe := Lib.hid (hOi.out.then ((OO5.then (Only.fut (S := fun _ => False) F6) fun y h9 _ => h9.elim).then O7 (fun y hy _ => by subst hy; exact hf6 _ hmf)) (fun y hy _ => hy))
              have hff : Hid (∀ y, (⟨e.p, e.blk, e.rows + 1, .slice (some ⟨b7, off7, none⟩) cols.length c7, cols.set q (mc, addV lc z)⟩ : En).foot y → e.foot y ∨ wj.heap.size ≤ y) := Lib.hid (fun y hy => hf6 y (foot_put hcs.out hy))
              replace hZ7 := Lib.hid hZ7
              clear hE7 hm7 hg7 O7 hE6 hM6 F6
              go_wp2
              go_roundw
              case rel => exact ⟨q + 1, _, by omega, by go_num, hZ7, rfl, rfl, rfl, by rw [hfs.out]; exact hm6.out, hff, hOe⟩
              case measure => first | (simp [intOf] <;> omega) | (have hq9 := hq0.out; simp [intOf] <;> omega)
          · obtain rfl : q = f.a.length := by omega
            rw [List.take_length] at hci
            have hC' : CntI (es.set j e') ((X.take (k + 1)).map (·.p)) (X.take (k + 1)) := by
              rw [hnx, List.map_append]
              exact hCj.out.step hj hep hpi hri hci fun i x hi hx => hCj.out.one hi hj (hx.trans hep.symm)
            have hGi := Lib.hid (hGj.out.then (O4'.out.trans hOi.out) (fun y hy hlt' => by
              rcases hy with h2 | h2
              · have := ef y h2; omega
              · omega))
            go_wp2
            go_roundw
            case rel => exact ⟨k + 1, _, by omega, by go_num, hZi, Lib.hid hC', hGi⟩
            case measure => simp [intOf] <;> omega
      · have hno : ∀ e ∈ es, e.p ≠ f.p := fun e he h => hex (by
          obtain ⟨j, hj⟩ := List.mem_iff_getElem?.1 he
          exact ⟨j, e, hj, h⟩)
        clear hex
        have hgn : getE (es.map En.entry) f.p = none := getE_none fun q hq => by
          obtain ⟨e, he, rfl⟩ := List.mem_map.1 hq
          exact hno e he
        have hlk : ∀ o, (Instr.lookup 97 (.map (some w.heap.size)) (.string f.p) false).run Try.prog (wo.alloc o) = .ok (.pointer none) (wo.alloc o) := fun o => by
          rw [(hZ.out.fut (Fut.alloc wo o)).look hpm, hgn]; rfl
        have fb0 := Fut.alloc wo (.cells #[Value.string f.p, Value.slice A' f.a.length cp] 33)
        have hbx0 := heap_alloc_new wo (.cells #[Value.string f.p, Value.slice A' f.a.length cp] 33)
        have hs30 : (wo.alloc (.cells #[Value.string f.p, Value.slice A' f.a.length cp] 33)).heap.size = wo.heap.size + 1 := by simp
        obtain ⟨wm, hwm⟩ : ∃ W, wo.alloc (.cells #[Value.string f.p, Value.slice A' f.a.length cp] 33) = W := ⟨_, rfl⟩
        rw [hwm] at fb0 hbx0 hs30
        have fb1 := Fut.alloc wm (.cells #[.int .i64 0, .slice none 0 0] tCn)
        have hnb := heap_alloc_new wm (.cells #[.int .i64 0, .slice none 0 0] tCn)
        have hs31 : (wm.alloc (.cells #[.int .i64 0, .slice none 0 0] tCn)).heap.size = wm.heap.size + 1 := by simp
        obtain ⟨wn, hwn⟩ : ∃ W, wm.alloc (.cells #[.int .i64 0, .slice none 0 0] tCn) = W := ⟨_, rfl⟩
        rw [hwn] at fb1 hnb hs31
        have hbx1 := fb1.block hbx0
        have hZn := (hZ.out.fut (fb0.trans fb1))
        have hWW : ((wo.alloc (.cells #[Value.string f.p, Value.slice A' f.a.length cp] 33)).alloc (.cells #[.int .i64 0, .slice none 0 0] tCn)) = wn := by rw [hwm, hwn]
        replace hwm := Lib.hid hwm
        replace hwn := Lib.hid hwn
        replace hWW := Lib.hid hWW
        have hb0 : ((wo.alloc (.cells #[Value.string f.p, Value.slice A' f.a.length cp] 33)).alloc (.cells #[.int .i64 0, .slice none 0 0] tCn)).cell? ⟨wo.heap.size, 0, none⟩ = some (.string f.p) := by rw [hWW.out]; exact cell_at hbx1 0 _ rfl
        have hOK := hZn.ok
        rw [hs30] at hnb
        go_wp2_with (first | (refine wpList_mapNew (l := es.map En.entry) (p := f.p) (b := w.heap.size) (v := .pointer (some ⟨wo.heap.size + 1, 0, none⟩)) (by first | rfl | go_simp) _ _ _ rfl rfl rfl rfl (by rw [hWW.out]; exact hZn.map) hOK hpm (fun q hq => by obtain ⟨x, hx, rfl⟩ := List.mem_map.1 hq; exact hno x hx) ?km))
        case km =>
        intro wj hmj hgj
        rw [hWW.out] at hgj
        clear hlk hb0 hWW
        have hZn := (hZ.out.fut (fb0.trans fb1))
        have hml := hZ.out.map.lt
        have fb := fb0.trans fb1
        have Omj : Only (fun q => q = w.heap.size) wn wj := Only.grown hgj fun q hq => by injection hq with hq; exact hq.symm
        have hs3 := hgj.size
        have hj := List.getElem?_concat_length (l := es) (a := (⟨f.p, wo.heap.size + 1, 0, .slice none 0 0, []⟩ : En))
        have hZj := Lib.hid (hZn.snoc hpm hnb (by omega) (fun i x hi hk2 => by have := ((hZ.out.each i x hi).1.lt _ hk2).2; omega) hgj hmj)
        have hCj := Lib.hid (hC.out.more (nb := wo.heap.size + 1) (lv := .slice none 0 0) hno (fun g hg => List.mem_map.2 ⟨g, hg, rfl⟩))
        have hBj := Lib.hid (Omj.keeps hbx1 (by show ¬ _ = w.heap.size; omega))
        have hVj := Lib.hid (show OwnV w0.heap.size 29 wj (.slice A' f.a.length cp) f.a from OwnL.only (HV.out.fut RV.stays fb) (fun _ _ h => h) Omj (fun q hq (e1 : q = w.heap.size) => by have := hV1 q hq; omega))
        have hGj := Lib.hid (hG.out.then ((Only.fut (S := fun q => q = w.heap.size) fb).trans Omj) (fun y h _ => .inl h))
        have hep : (⟨f.p, wo.heap.size + 1, 0, .slice none 0 0, []⟩ : En).p = f.p := rfl
        have hft : ¬ (⟨f.p, wo.heap.size + 1, 0, .slice none 0 0, []⟩ : En).foot wo.heap.size := fun h => by
          rcases h with h | h | ⟨c, hc, _⟩
          · have h9 : wo.heap.size = wo.heap.size + 1 := h
            omega
          · cases h
          · cases hc
        have hrk : (⟨f.p, wo.heap.size + 1, 0, .slice none 0 0, []⟩ : En).rows ≤ k := Nat.zero_le _
        have hbk : (⟨f.p, wo.heap.size + 1, 0, .slice none 0 0, []⟩ : En).blk = wo.heap.size + 1 := rfl
        generalize hes2 : es ++ [(⟨f.p, wo.heap.size + 1, 0, .slice none 0 0, []⟩ : En)] = es2 at *
        generalize hjj : es.length = j at *
        clear hes2
        generalize (⟨f.p, wo.heap.size + 1, 0, .slice none 0 0, []⟩ : En) = e at *
        have hs3' : wo.heap.size < wj.heap.size := by omega
        rw [← hbk]
        clear hs3 hs30 hs31 fb fb0 fb1 hbx0 hbx1 hnb hZn hmj hgj Omj hml hZ hC HV hG hno hgn hbk hjj
        have hs3 : wo.heap.size < wj.heap.size := by omega
        have hE := (hZj.out.each j e hj).1
        have hwrap : IntKind.i64.wrap ((e.rows : Int) + 1) = ((e.rows + 1 : Nat) : Int) := by rw [IntKind.wrap_i64]; omega
        have c0 : wj.cell? ⟨e.blk, 0, none⟩ = some (.int .i64 e.rows) := cell_at hE.cell 0 _ rfl
        have z0 : wj.frozen? ⟨e.blk, 0, none⟩ = false := free_at hE.cell 0
        have ebl : e.blk < wj.heap.size := (Array.getElem?_eq_some_iff.1 hE.cell).1
        have hi3 : (Try.prog.info? 3).map (·.size) = some 1 := by kernel_rfl
        obtain ⟨w4, hw4⟩ : ∃ W, wj.setCell ⟨e.blk, 0, none⟩ (.int .i64 ((e.rows + 1 : Nat) : Int)) = W := ⟨_, rfl⟩
        have O4 : Only (fun q => q = e.blk) wj w4 := hw4 ▸ Only.set _ _ rfl
        have hb4 := O4.keeps hBj.out (fun h => hft (.inl h))
        have cb1 := cell_at hb4 1 (.slice A' f.a.length cp) rfl
        have hZ4 : SzI w1.heap.size w4 w.heap.size (es2.set j { e with rows := e.rows + 1 }) := hZj.out.upd hj O4 (fun q hq => .inl (.inl hq)) (hw4 ▸ hE.row _) rfl rfl (fun q hq => .inl hq)
        have hs4 := O4.size
        have hw5 : wj.setCell ⟨e.blk, 0, none⟩ (.int .i64 ((e.rows : Int) + 1)) = w4 := hw4
        go_wp2_with (first | (refine wpList_store_1 (wanted_none rfl _) _ _ rfl rfl rfl hi3 rfl c0 z0 hw4 ?_) | (refine wpList_store_1 (wanted_none rfl _) _ _ rfl rfl rfl hi3 rfl c0 z0 hw5 ?_) | (refine wpList_store_1 (wanted_none rfl _) _ _ rfl rfl rfl hi3 rfl (hwj.out ▸ c0) (hwj.out ▸ z0) (hwj.out ▸ hw5) ?_))
        try clear hlk c00
        have hV4 : OwnV w0.heap.size 29 w4 (.slice A' f.a.length cp) f.a := hVj.out.only (fun _ _ h => h) O4 (fun q hq (e1 : q = e.blk) => by
          have h2 := hE.low.1
          have h3 := hV1 q hq
          omega)
        have ef : ∀ q, e.foot q → w1.heap.size ≤ q ∧ q < wj.heap.size := hE.lt
        have HV4 := Lib.hid hV4
        have HZ4 := Lib.hid hZ4
        have O4' := Lib.hid (O4.mono (S' := fun y => e.foot y ∨ wj.heap.size ≤ y) fun y _ hy => .inl (.inl hy))
        clear hb4 cb1 hZ4 hV4 O4 hw5 hw4 c0 z0 hE hBj hZj hVj
        go_loopw [45] (fun i wi => ∃ (q : Nat) (e' : En), q ≤ f.a.length ∧ i = .int .i64 q ∧ Hid (SzI w1.heap.size wi w.heap.size (es2.set j e')) ∧ e'.p = e.p ∧ e'.blk = e.blk ∧ e'.rows = e.rows + 1 ∧ e'.cols.map (·.2) = stepA (e.cols.map (·.2)) 0 (f.a.take q) ∧ Hid (∀ x, e'.foot x → e.foot x ∨ wj.heap.size ≤ x) ∧ Hid (Only (fun x => e.foot x ∨ wj.heap.size ≤ x) w4 wi)) (fun i _ => f.a.length - (intOf i).toNat)
        case atStart => exact ⟨0, { e with rows := e.rows + 1 }, Nat.zero_le _, rfl, HZ4, rfl, rfl, rfl, by rw [List.take_zero]; rfl, Lib.hid (fun x hx => .inl hx), Lib.hid (Only.refl _)⟩
        case round =>
          obtain ⟨q, e', hq, rfl, hZi, hpi, hbi, hri, hci, hfi, hOi⟩ := hrel
          by_cases hql : q < f.a.length
          · have hVi : OwnV w0.heap.size 29 wr (.slice A' f.a.length cp) f.a := OwnL.only HV4.out (fun _ _ h => h) hOi.out (fun y hy hs => by
              have h1 := hV1 y hy
              rcases hs with h2 | h2
              · have := ef y h2; omega
              · omega)
            obtain ⟨b2, off2, rfl, hok, u0, u1, u2⟩ := hVi.vals.at_ hql
            have hvok := hfk.out _ (List.getElem_mem hql)
            have hfs : stepA (e.cols.map (·.2)) 0 (f.a.take (q + 1)) = stepC (e'.cols.map (·.2)) q f.a[q] := by
              rw [List.take_succ_eq_append_getElem hql, stepA_snoc, ← hci, List.length_take, Nat.min_eq_left (by omega), Nat.zero_add]
            have hcl2 : e'.cols.length = max e.cols.length q := by
              have h1 := congrArg List.length hci
              rw [stepA_len _ _ _ (Nat.zero_le _), List.length_map, List.length_map, List.length_take, Nat.min_eq_left (by omega), Nat.zero_add] at h1
              exact h1
            have hjs : (es2.set j e')[j]? = some e' := by rw [List.getElem?_set, if_pos rfl, if_pos (List.getElem?_eq_some_iff.1 hj).1]
            have hEi := (hZi.out.each j e' hjs).1
            generalize f.a[q] = z at *
            obtain ⟨p', blk', rows', lv, cols⟩ := e'
            dsimp only at hpi hbi hri hci hfs hcl2 hEi hfi hjs hZi
            subst hpi hbi hri
            obtain ⟨A7, c7, rfl, hc7, _⟩ := hEi.list.rep.form
            rw [List.length_map] at hEi hjs hZi hfi hc7
            have hqI : (q : Int) < f.a.length := by omega
            have e1 : (0 : Int) ≤ q ∧ (q : Int) < f.a.length := by omega
            have d1 : ∀ o, (wr.alloc o).cell? ⟨e.blk, 1, none⟩ = some (.slice A7 cols.length c7) := fun o => (Fut.alloc wr o).cell (cell_at hEi.cell 1 _ rfl)
            have hqc : q ≤ cols.length := by omega
            clear hcl2
            replace hci := Lib.hid hci
            replace hfs := Lib.hid hfs
            replace hjs := Lib.hid hjs
            replace hEi := Lib.hid hEi
            have hob := Only.fut (S := fun x => e.foot x ∨ wj.heap.size ≤ x) (Fut.alloc wr (.cells #[.int .i8 z.k, .int .i64 z.n, .string z.s] 29))
            have hs6 : wj.heap.size ≤ wr.heap.size := by have := hOi.out.size; omega
            by_cases hqe : q = cols.length
            · subst hqe
              have hA1 : (wr.alloc (.cells #[.int .i8 z.k, .int .i64 z.n, .string z.s] 29)).heap.size = wr.heap.size + 1 := by simp
              have hA2 : ((wr.alloc (.cells #[.int .i8 z.k, .int .i64 z.n, .string z.s] 29)).alloc (.map #[] 0)).heap.size = wr.heap.size + 1 + 1 := by simp
              have hA3 : (((wr.alloc (.cells #[.int .i8 z.k, .int .i64 z.n, .string z.s] 29)).alloc (.map #[] 0)).alloc (.cells #[.map (some (wr.heap.size + 1))] tMp)).heap.size = wr.heap.size + 1 + 1 + 1 := by simp
              have hM0 : MapE V.val ((wr.alloc (.cells #[.int .i8 z.k, .int .i64 z.n, .string z.s] 29)).alloc (.map #[] 0)) (wr.heap.size + 1) [] := hA1 ▸ MapE.new _
              have hu0 := mpOne ((wr.alloc (.cells #[.int .i8 z.k, .int .i64 z.n, .string z.s] 29)).alloc (.map #[] 0)) (wr.heap.size + 1)
              rw [hA2] at hu0
              have FW0 := ((Fut.alloc wr (.cells #[.int .i8 z.k, .int .i64 z.n, .string z.s] 29)).trans (Fut.alloc _ (.map #[] 0))).trans (Fut.alloc _ (.cells #[.map (some (wr.heap.size + 1))] tMp))
              have hM1 := hM0.fut (Fut.alloc _ (.cells #[.map (some (wr.heap.size + 1))] tMp))
              have hX0 := ((Fut.alloc (wr.alloc (.cells #[.int .i8 z.k, .int .i64 z.n, .string z.s] 29)) (.map #[] 0)).trans (Fut.alloc _ (.cells #[.map (some (wr.heap.size + 1))] tMp))).block (boxV wr z 29)
              obtain ⟨W, hW⟩ : ∃ W, (((wr.alloc (.cells #[.int .i8 z.k, .int .i64 z.n, .string z.s] 29)).alloc (.map #[] 0)).alloc (.cells #[.map (some (wr.heap.size + 1))] tMp)) = W := ⟨_, rfl⟩
              rw [hW] at hu0 FW0 hM1 hX0 hA3
              replace hW := Lib.hid hW
              replace hu0 := Lib.hid hu0
              replace FW0 := Lib.hid FW0
              replace hM1 := Lib.hid hM1
              replace hX0 := Lib.hid hX0
              have hOW := Lib.hid (hEi.out.list.fut RMp.stays FW0.out)
              have hmm := @run_makeMap Try.prog
              clear hA1 hA2 hM0
              replace hA3 := Lib.hid hA3
              go_wp2_with (first | (at_builtin; refine wpList_append_LB (R := RMp) (B := w1.heap.size) (M := 1) (xs := cols.map (·.1)) (ys := [wr.heap.size + 1]) (e := tMp) (by go_simp) _ _ 99 rfl Try.underlying99 (.map none) 8 infoMp rfl (by decide) RMp.one RMp.keeps rfl rfl (by rw [hW.out]; exact hOW.out) (by rw [hW.out]; exact hu0.out) ?l3 ?l4 ?b3 ?k3))
              case l3 => simp [maxLen]; omega
              case l4 => first | omega | (simp; omega)
              case b3 => first | omega | (rw [hW.out, hA3.out]; omega)
              case k3 =>
              intro v' w' o' g' sn'
              rw [hW.out] at g' sn'
              have hgr := hEi.out.grow FW0.out hM1.out (by omega) (by omega) o' g' sn'
              obtain ⟨A8, c8, rfl, hc8, _⟩ := o'.rep.form
              rw [List.length_append, List.length_map, List.length_singleton] at hgr hc8 ⊢
              obtain ⟨hE5, x1, x2, O5, hf5⟩ := hgr
              have hX1 : w'.heap[wr.heap.size]? = _ := (Only.grown (S := fun y => Value.ownBlock (.slice A7 cols.length c7) = some y) g' fun y hy => hy).keeps hX0.out (fun hy => by have := (hEi.out.list.block _ hy).2; omega)
              obtain ⟨w5, hw5⟩ : ∃ W, w'.setCell ⟨e.blk, 1, none⟩ (.slice A8 (cols.length + 1) c8) = W := ⟨_, rfl⟩
              rw [hw5] at hE5 O5
              have hi46 : (Try.prog.info? 99).map (·.size) = some 1 := by kernel_rfl
              have O5x : Only (fun y => y = e.blk) w' w5 := hw5 ▸ Only.set _ _ rfl
              have hX5 := O5x.keeps hX1 (fun hy => by have := hEi.out.lt _ (.inl rfl); omega)
              clear O5x
              go_wp2_with (first | (refine wpList_store_1 (wanted_none rfl _) _ _ rfl rfl rfl hi46 rfl x1 x2 hw5 ?_))
              have hZ5 := hZi.out.upd hjs.out O5 (fun y hy => hy) (e' := ⟨e.p, e.blk, e.rows + 1, .slice A8 (cols.length + 1) c8, cols ++ [(wr.heap.size + 1, [])]⟩) hE5 rfl rfl hf5
              rw [List.set_set] at hZ5
              have hcs : (cols ++ [(wr.heap.size + 1, ([] : List V))])[cols.length]? = some (wr.heap.size + 1, []) := by simp
              have hm6 : ((cols ++ [(wr.heap.size + 1, [])] : List Col).set cols.length (wr.heap.size + 1, addV [] z)).map (·.2) = stepC (cols.map (·.2)) cols.length z := by
                have h9 := stepC_new (C := cols.map (·.2)) z
                rw [List.length_map] at h9
                rw [List.map_set, List.map_append, h9]; rfl
              have hl5 : cols.length < (cols ++ [(wr.heap.size + 1, ([] : List V))] : List Col).length := by simp
              have hll : cols.length + 1 = (cols ++ [(wr.heap.size + 1, ([] : List V))] : List Col).length := by simp
              rw [hll] at hE5 hZ5 ⊢
              have hf6 : ∀ y, (⟨e.p, e.blk, e.rows + 1, .slice A8 (cols ++ [(wr.heap.size + 1, ([] : List V))] : List Col).length c8, cols ++ [(wr.heap.size + 1, [])]⟩ : En).foot y → e.foot y ∨ wj.heap.size ≤ y := fun y hy => by
                rw [← hll] at hy
                rcases hf5 y hy with h9 | h9
                · exact hfi.out y h9
                · exact .inr (by omega)
              have OO5 : Only (fun x => e.foot x ∨ wj.heap.size ≤ x) wr w5 := O5.mono fun y _ hy => hy.elim (fun h9 => hfi.out y h9) fun h9 => .inr (by omega)
              generalize (cols ++ [(wr.heap.size + 1, ([] : List V))] : List Col) = cols5 at *
              generalize hmb : wr.heap.size + 1 = mc at *
              clear hmb hll hW hu0 FW0 hM1 hX0 hOW hA3 g' sn' o' hw5 x1 x2 O5 hf5 hX1
              generalize hq0 : cols.length = q at *
              replace hq0 := Lib.hid hq0
              have hjl := (List.getElem?_eq_some_iff.1 hj).1
              have hj5 : (es2.set j ⟨e.p, e.blk, e.rows + 1, .slice A8 cols5.length c8, cols5⟩)[j]? = some ⟨e.p, e.blk, e.rows + 1, .slice A8 cols5.length c8, cols5⟩ := by rw [List.getElem?_set, if_pos rfl, if_pos hjl]
              have y1 := cell_at hE5.cell 1 _ rfl
              have hat := mp_at (k := q) hE5.list.rep (by rw [List.length_map]; exact hl5)
              obtain ⟨b7, off7, hA8, y2⟩ := hat
              subst hA8
              have hcq : (cols5.map (·.1))[q]'(by rw [List.length_map]; exact hl5) = mc := by
                rw [List.getElem_map]
                have h9 := List.getElem?_eq_getElem hl5
                rw [hcs] at h9
                injection h9 with h9
                rw [← h9]
              rw [hcq] at y2
              have y3 := cell_at hX5 0 (.int .i8 z.k) rfl
              have y4 := cell_at hX5 1 (.int .i64 z.n) rfl
              have y5 := cell_at hX5 2 (.string z.s) rfl
              have hlI : (0 : Int) ≤ q ∧ (q : Int) < cols5.length := by omega
              replace hX5 := Lib.hid hX5
              replace hE5 := Lib.hid hE5
              replace hZ5 := Lib.hid hZ5
              replace hcs := Lib.hid hcs
              replace hm6 := Lib.hid hm6
              clear hcq
              refine wp_graph 9 [.d, .d, .d, .d, .d, .d, .d, .d, .d] (by kernel_rfl) (by kernel_rfl) (by kernel_rfl) ?_
              simp only [List.take_succ_cons, List.take_zero, List.drop_succ_cons, List.drop_zero, Exs]
              iterate 9 apply Exists.intro
              apply Run.valG (wanted_none rfl _)
              · intro w1 h1 hk
                have q1 := h1.cell y1; have q2 := h1.cell y2; have q3 := h1.cell y3; have q4 := h1.cell y4; have q5 := h1.cell y5
                have hcw := fun b o => Below.cell (p := ⟨b, o, none⟩) h1
                go_simp; rfl
              simp only [Act.put, List.setIfInBounds_toArray, List.set_cons_succ, List.set_cons_zero, List.nil_append, List.cons_append]
              apply Run.valG (wanted_none rfl _)
              · intro w1 h1 hk
                have q1 := h1.cell y1; have q2 := h1.cell y2; have q3 := h1.cell y3; have q4 := h1.cell y4; have q5 := h1.cell y5
                have hcw := fun b o => Below.cell (p := ⟨b, o, none⟩) h1
                go_simp; rfl
              simp only [Act.put, List.setIfInBounds_toArray, List.set_cons_succ, List.set_cons_zero, List.nil_append, List.cons_append]
              apply Run.valG (wanted_none rfl _)
              · intro w1 h1 hk
                have q1 := h1.cell y1; have q2 := h1.cell y2; have q3 := h1.cell y3; have q4 := h1.cell y4; have q5 := h1.cell y5
                have hcw := fun b o => Below.cell (p := ⟨b, o, none⟩) h1
                go_simp; rfl
              simp only [Act.put, List.setIfInBounds_toArray, List.set_cons_succ, List.set_cons_zero, List.nil_append, List.cons_append]
              apply Run.valG (wanted_none rfl _)
              · intro w1 h1 hk
                have q1 := h1.cell y1; have q2 := h1.cell y2; have q3 := h1.cell y3; have q4 := h1.cell y4; have q5 := h1.cell y5
                have hcw := fun b o => Below.cell (p := ⟨b, o, none⟩) h1
                go_simp; rfl
              simp only [Act.put, List.setIfInBounds_toArray, List.set_cons_succ, List.set_cons_zero, List.nil_append, List.cons_append]
              apply Run.valG (wanted_none rfl _)
              · intro w1 h1 hk
                have q1 := h1.cell y1; have q2 := h1.cell y2; have q3 := h1.cell y3; have q4 := h1.cell y4; have q5 := h1.cell y5
                have hcw := fun b o => Below.cell (p := ⟨b, o, none⟩) h1
                go_simp; rfl
              simp only [Act.put, List.setIfInBounds_toArray, List.set_cons_succ, List.set_cons_zero, List.nil_append, List.cons_append]
              apply Run.valG (wanted_none rfl _)
              · intro w1 h1 hk
                have q1 := h1.cell y1; have q2 := h1.cell y2; have q3 := h1.cell y3; have q4 := h1.cell y4; have q5 := h1.cell y5
                have hcw := fun b o => Below.cell (p := ⟨b, o, none⟩) h1
                go_simp; rfl
              simp only [Act.put, List.setIfInBounds_toArray, List.set_cons_succ, List.set_cons_zero, List.nil_append, List.cons_append]
              apply Run.valG (wanted_none rfl _)
              · intro w1 h1 hk
                have q1 := h1.cell y1; have q2 := h1.cell y2; have q3 := h1.cell y3; have q4 := h1.cell y4; have q5 := h1.cell y5
                have hcw := fun b o => Below.cell (p := ⟨b, o, none⟩) h1
                go_simp; rfl
              simp only [Act.put, List.setIfInBounds_toArray, List.set_cons_succ, List.set_cons_zero, List.nil_append, List.cons_append]
              apply Run.valG (wanted_none rfl _)
              · intro w1 h1 hk
                have q1 := h1.cell y1; have q2 := h1.cell y2; have q3 := h1.cell y3; have q4 := h1.cell y4; have q5 := h1.cell y5
                have hcw := fun b o => Below.cell (p := ⟨b, o, none⟩) h1
                go_simp; rfl
              simp only [Act.put, List.setIfInBounds_toArray, List.set_cons_succ, List.set_cons_zero, List.nil_append, List.cons_append]
              apply Run.valG (wanted_none rfl _)
              · intro w1 h1 hk
                have q1 := h1.cell y1; have q2 := h1.cell y2; have q3 := h1.cell y3; have q4 := h1.cell y4; have q5 := h1.cell y5
                have hcw := fun b o => Below.cell (p := ⟨b, o, none⟩) h1
                go_simp; rfl
              simp only [Act.put, List.setIfInBounds_toArray, List.set_cons_succ, List.set_cons_zero, List.nil_append, List.cons_append]
              apply Run.done
              intro w2 h2 hk
              clear hk
              have F6 := (Fut.drew _).trans h2
              clear h2 y1 y2 y3 y4 y5 hX5
              have hE6 := hE5.out.fut F6
              have hM6 := hE6.maps q _ hcs.out
              go_wp2_with (first | (refine wpList_mapAdd (v := z) (by first | rfl | go_simp) _ _ _ rfl rfl rfl rfl hM6.1 hM6.2 hvok ?km2))
              case km2 =>
              intro w7 hm7 hg7
              have hE7 := hE6.put hcs.out hg7 hm7 (fun x hx => (mem_addV.1 hx).elim (hM6.2 x) fun h9 => h9 ▸ hvok)
              have O7 : Only (fun y => y = mc) w2 w7 := Only.grown hg7 fun y hy => by injection hy with hy; exact hy.symm
              have hmf : (⟨e.p, e.blk, e.rows + 1, .slice (some ⟨b7, off7, none⟩) cols5.length c8, cols5⟩ : En).foot mc := .inr (.inr ⟨_, List.mem_of_getElem? hcs.out, rfl⟩)
              have hZ7 := (hZ5.out.fut F6).upd hj5 O7 (fun y hy => .inl (hy ▸ hmf)) (e' := ⟨e.p, e.blk, e.rows + 1, .slice (some ⟨b7, off7, none⟩) cols5.length c8, _⟩) hE7 rfl rfl (fun y hy => .inl (foot_put hcs.out hy))
              rw [List.set_set] at hZ7
              have hOe := Lib.hid (hOi.out.then ((OO5.then (Only.fut (S := fun _ => False) F6) fun y h9 _ => h9.elim).then O7 (fun y hy _ => by subst hy; exact hf6 _ hmf)) (fun y hy _ => hy))
              have hff : Hid (∀ y, (⟨e.p, e.blk, e.rows + 1, .slice (some ⟨b7, off7, none⟩) cols5.length c8, cols5.set q (mc, addV [] z)⟩ : En).foot y → e.foot y ∨ wj.heap.size ≤ y) := Lib.hid (fun y hy => hf6 y (foot_put hcs.out hy))
              replace hZ7 := Lib.hid hZ7
              clear hE7 hm7 hg7 O7 hE6 hM6 F6
              go_wp2
              go_roundw
              case rel => exact ⟨q + 1, _, by omega, by go_num, hZ7, rfl, rfl, rfl, by rw [hfs.out]; exact hm6.out, hff, hOe⟩
              case measure => first | (simp [intOf] <;> omega) | (have hq9 := hq0.out; simp [intOf] <;> omega)
            · have hqI : ¬ (q : Int) = cols.length := by omega
              go_wp2_with fail
              have F5 := Fut.alloc wr (.cells #[.int .i8 z.k, .int .i64 z.n, .string z.s] 29)
              have hX5 := boxV wr z 29
              obtain ⟨w5, hw5⟩ : ∃ W, wr.alloc (.cells #[.int .i8 z.k, .int .i64 z.n, .string z.s] 29) = W := ⟨_, rfl⟩
              rw [hw5] at F5 hX5 ⊢
              clear hw5 hqI
              have hl5 : q < cols.length := by omega
              have hE5 := hEi.out.fut F5
              have hZ5 := hZi.out.fut F5
              have hcs : cols[q]? = some (cols[q].1, cols[q].2) := List.getElem?_eq_getElem hl5
              have hm6 : (cols.set q (cols[q].1, addV cols[q].2 z)).map (·.2) = stepC (cols.map (·.2)) q z := by
                rw [stepC_put z (by rw [List.length_map]; exact hl5), List.map_set, List.getElem_map]
              have OO5 := Only.fut (S := fun x => e.foot x ∨ wj.heap.size ≤ x) F5
              have hf6 : ∀ y, (⟨e.p, e.blk, e.rows + 1, .slice A7 cols.length c7, cols⟩ : En).foot y → e.foot y ∨ wj.heap.size ≤ y := hfi.out
              generalize hcm : cols[q].1 = mc at *
              generalize hcl : cols[q].2 = lc at *
              clear hcm hcl F5
              have hjl := (List.getElem?_eq_some_iff.1 hj).1
              have hj5 : (es2.set j ⟨e.p, e.blk, e.rows + 1, .slice A7 cols.length c7, cols⟩)[j]? = some ⟨e.p, e.blk, e.rows + 1, .slice A7 cols.length c7, cols⟩ := by rw [List.getElem?_set, if_pos rfl, if_pos hjl]
              have y1 := cell_at hE5.cell 1 _ rfl
              have hat := mp_at (k := q) hE5.list.rep (by rw [List.length_map]; exact hl5)
              obtain ⟨b7, off7, hA8, y2⟩ := hat
              subst hA8
              have hcq : (cols.map (·.1))[q]'(by rw [List.length_map]; exact hl5) = mc := by
                rw [List.getElem_map]
                have h9 := List.getElem?_eq_getElem hl5
                rw [hcs] at h9
                injection h9 with h9
                rw [← h9]
              rw [hcq] at y2
              have y3 := cell_at hX5 0 (.int .i8 z.k) rfl
              have y4 := cell_at hX5 1 (.int .i64 z.n) rfl
              have y5 := cell_at hX5 2 (.string z.s) rfl
              have hlI : (0 : Int) ≤ q ∧ (q : Int) < cols.length := by omega
              replace hX5 := Lib.hid hX5
              replace hE5 := Lib.hid hE5
              replace hZ5 := Lib.hid hZ5
              replace hcs := Lib.hid hcs
              replace hm6 := Lib.hid hm6
              clear hcq
              refine wp_graph 9 [.d, .d, .d, .d, .d, .d, .d, .d, .d] (by kernel_rfl) (by kernel_rfl) (by kernel_rfl) ?_
              simp only [List.take_succ_cons, List.take_zero, List.drop_succ_cons, List.drop_zero, Exs]
              iterate 9 apply Exists.intro
              apply Run.valG (wanted_none rfl _)
              · intro w1 h1 hk
                have q1 := h1.cell y1; have q2 := h1.cell y2; have q3 := h1.cell y3; have q4 := h1.cell y4; have q5 := h1.cell y5
                have hcw := fun b o => Below.cell (p := ⟨b, o, none⟩) h1
                go_simp; rfl
              simp only [Act.put, List.setIfInBounds_toArray, List.set_cons_succ, List.set_cons_zero, List.nil_append, List.cons_append]
              apply Run.valG (wanted_none rfl _)
              · intro w1 h1 hk
                have q1 := h1.cell y1; have q2 := h1.cell y2; have q3 := h1.cell y3; have q4 := h1.cell y4; have q5 := h1.cell y5
                have hcw := fun b o => Below.cell (p := ⟨b, o, none⟩) h1
                go_simp; rfl
              simp only [Act.put, List.setIfInBounds_toArray, List.set_cons_succ, List.set_cons_zero, List.nil_append, List.cons_append]
              apply Run.valG (wanted_none rfl _)
              · intro w1 h1 hk
                have q1 := h1.cell y1; have q2 := h1.cell y2; have q3 := h1.cell y3; have q4 := h1.cell y4; have q5 := h1.cell y5
                have hcw := fun b o => Below.cell (p := ⟨b, o, none⟩) h1
                go_simp; rfl
              simp only [Act.put, List.setIfInBounds_toArray, List.set_cons_succ, List.set_cons_zero, List.nil_append, List.cons_append]
              apply Run.valG (wanted_none rfl _)
              · intro w1 h1 hk
                have q1 := h1.cell y1; have q2 := h1.cell y2; have q3 := h1.cell y3; have q4 := h1.cell y4; have q5 := h1.cell y5
                have hcw := fun b o => Below.cell (p := ⟨b, o, none⟩) h1
                go_simp; rfl
              simp only [Act.put, List.setIfInBounds_toArray, List.set_cons_succ, List.set_cons_zero, List.nil_append, List.cons_append]
              apply Run.valG (wanted_none rfl _)
              · intro w1 h1 hk
                have q1 := h1.cell y1; have q2 := h1.cell y2; have q3 := h1.cell y3; have q4 := h1.cell y4; have q5 := h1.cell y5
                have hcw := fun b o => Below.cell (p := ⟨b, o, none⟩) h1
                go_simp; rfl
              simp only [Act.put, List.setIfInBounds_toArray, List.set_cons_succ, List.set_cons_zero, List.nil_append, List.cons_append]
              apply Run.valG (wanted_none rfl _)
              · intro w1 h1 hk
                have q1 := h1.cell y1; have q2 := h1.cell y2; have q3 := h1.cell y3; have q4 := h1.cell y4; have q5 := h1.cell y5
                have hcw := fun b o => Below.cell (p := ⟨b, o, none⟩) h1
                go_simp; rfl
              simp only [Act.put, List.setIfInBounds_toArray, List.set_cons_succ, List.set_cons_zero, List.nil_append, List.cons_append]
              apply Run.valG (wanted_none rfl _)
              · intro w1 h1 hk
                have q1 := h1.cell y1; have q2 := h1.cell y2; have q3 := h1.cell y3; have q4 := h1.cell y4; have q5 := h1.cell y5
                have hcw := fun b o => Below.cell (p := ⟨b, o, none⟩) h1
                go_simp; rfl
              simp only [Act.put, List.setIfInBounds_toArray, List.set_cons_succ, List.set_cons_zero, List.nil_append, List.cons_append]
              apply Run.valG (wanted_none rfl _)
              · intro w1 h1 hk
                have q1 := h1.cell y1; have q2 := h1.cell y2; have q3 := h1.cell y3; have q4 := h1.cell y4; have q5 := h1.cell y5
                have hcw := fun b o => Below.cell (p := ⟨b, o, none⟩) h1
                go_simp; rfl
              simp only [Act.put, List.setIfInBounds_toArray, List.set_cons_succ, List.set_cons_zero, List.nil_append, List.cons_append]
              apply Run.valG (wanted_none rfl _)
              · intro w1 h1 hk
                have q1 := h1.cell y1; have q2 := h1.cell y2; have q3 := h1.cell y3; have q4 := h1.cell y4; have q5 := h1.cell y5
                have hcw := fun b o => Below.cell (p := ⟨b, o, none⟩) h1
                go_simp; rfl
              simp only [Act.put, List.setIfInBounds_toArray, List.set_cons_succ, List.set_cons_zero, List.nil_append, List.cons_append]
              apply Run.done
              intro w2 h2 hk
              clear hk
              have F6 := (Fut.drew _).trans h2
              clear h2 y1 y2 y3 y4 y5 hX5
              have hE6 := hE5.out.fut F6
              have hM6 := hE6.maps q _ hcs.out
              go_wp2_with (first | (refine wpList_mapAdd (v := z) (by first | rfl | go_simp) _ _ _ rfl rfl rfl rfl hM6.1 hM6.2 hvok ?km2))
              case km2 =>
              intro w7 hm7 hg7
              have hE7 := hE6.put hcs.out hg7 hm7 (fun x hx => (mem_addV.1 hx).elim (hM6.2 x) fun h9 => h9 ▸ hvok)
              have O7 : Only (fun y => y = mc) w2 w7 := Only.grown hg7 fun y hy => by injection hy with hy; exact hy.symm
              have hmf : (⟨e.p, e.blk, e.rows + 1, .slice (some ⟨b7, off7, none⟩) cols.length c7, cols⟩ : En).foot mc := .inr (.inr ⟨_, List.mem_of_getElem? hcs.out, rfl⟩)
              have hZ7 := (hZ5.out.fut F6).upd hj5 O7 (fun y hy => .inl (hy ▸ hmf)) (e' := ⟨e.p, e.blk, e.rows + 1, .slice (some ⟨b7, off7, none⟩) cols.length c7, _⟩) hE7 rfl rfl (fun y hy => .inl (foot_put hcs.out hy))
              rw [List.set_set] at hZ7
              have hOe := Lib.hid (hOi.out.then ((OO5.then (Only.fut (S := fun _ => False) F6) fun y h9 _ => h9.elim).then O7 (fun y hy _ => by subst hy; exact hf6 _ hmf)) (fun y hy _ => hy))
              have hff : Hid (∀ y, (⟨e.p, e.blk, e.rows + 1, .slice (some ⟨b7, off7, none⟩) cols.length c7, cols.set q (mc, addV lc z)⟩ : En).foot y → e.foot y ∨ wj.heap.size ≤ y) := Lib.hid (fun y hy => hf6 y (foot_put hcs.out hy))
              replace hZ7 := Lib.hid hZ7
              clear hE7 hm7 hg7 O7 hE6 hM6 F6
              go_wp2
              go_roundw
              case rel => exact ⟨q + 1, _, by omega, by go_num, hZ7, rfl, rfl, rfl, by rw [hfs.out]; exact hm6.out, hff, hOe⟩
              case measure => first | (simp [intOf] <;> omega) | (have hq9 := hq0.out; simp [intOf] <;> omega)
          · obtain rfl : q = f.a.length := by omega
            rw [List.take_length] at hci
            have hC' : CntI (es2.set j e') ((X.take (k + 1)).map (·.p)) (X.take (k + 1)) := by
              rw [hnx, List.map_append]
              exact hCj.out.step hj hep hpi hri hci fun i x hi hx => hCj.out.one hi hj (hx.trans hep.symm)
            have hGi := Lib.hid (hGj.out.then (O4'.out.trans hOi.out) (fun y hy hlt' => by
              rcases hy with h2 | h2
              · have := ef y h2; omega
              · omega))
            go_wp2
            go_roundw
            case rel => exact ⟨k + 1, _, by omega, by go_num, hZi, Lib.hid hC', hGi⟩
            case measure => simp [intOf] <;> omega
    · obtain rfl : k = X.length := by omega
      rw [List.take_length] at hC
      have hes : es.length ≤ 1048576 := by
        have h9 := congrArg List.length hC.out.names
        rw [List.length_map] at h9
        have h8 := ddV_len (X.map (·.p))
        rw [List.length_map] at h8
        omega
      have Fw := Lib.hid (Only.toFut ((Only.fut (S := fun _ => False) F1.out).then hG.out (fun y hy hlt' => by omega)) (fun y hy => hy.elim))
      have hNm := names_eq hC.out
      have hmE : (es.map En.entry).map (·.1) = es.map (·.p) := by rw [List.map_map]; rfl
      go_wp2_with fail
      refine (callsIn_wide.1 (Try.maps_Keys_33 _ _)).mono ?_
      rintro e w2 ⟨rfl, rfl⟩
      go_wp2_with fail
      refine (sorted_names hZ.out.map hZ.out.ok (by rw [List.length_map]; omega)).mono ?_
      rintro e w3 ⟨v, rfl, hN, f3⟩
      rw [hmE, hNm] at hN
      have hmem : ∀ y, y ∈ sortU cmpS (X.map (·.p)) → y ∈ es.map (·.p) := fun y hy => by
        rw [← hNm] at hy
        exact ((sortU_spec totS _).2 y).1 hy
      have hnl : (sortU cmpS (X.map (·.p))).length ≤ 1048576 := by
        have h9 := sortU_lenS (c := cmpS) (X.map (·.p))
        rw [List.length_map] at h9
        omega
      have F03 := (Fut.alloc wo (.cells #[.map (some w.heap.size)] 97)).trans f3
      have HZ3 := Lib.hid (hZ.out.fut F03)
      have HC3 := Lib.hid hC.out
      have FW3 := Lib.hid (Fw.out.trans F03)
      have hst : sizesOf X = (sortU cmpS (X.map (·.p))).map (szOf X) := rfl
      have HST := Lib.hid hst
      clear hst F03 hNm hmE hZ hC hG f3 Fw
      generalize hNL : sortU cmpS (X.map (·.p)) = NL at *
      replace hNL := Lib.hid hNL
      have HN := Lib.hid hN
      obtain ⟨A2, cap2, rfl, hcl2, hcm2⟩ := hN.rep.form
      clear hN
      go_wp2_with fail
      go_loopw [9, 82] (fun o i wr => ∃ k : Nat, k ≤ NL.length ∧ i = .int .i64 k ∧ Hid (OwnL 3 w3.heap.size 64 (RSz w3.heap.size) wr o ((NL.take k).map (szOf X))) ∧ Hid (Fut w3 wr)) (fun _ i _ => NL.length - (intOf i).toNat)
      case atStart => exact ⟨0, Nat.zero_le _, rfl, Lib.hid OwnL.nil, Lib.hid (Fut.refl _)⟩
      case round =>
        obtain ⟨k, hk, rfl, hF, hG⟩ := hrel
        obtain ⟨wo, hwo⟩ : ∃ x, x = wr := ⟨_, rfl⟩
        subst hwo
        by_cases hlt : k < NL.length
        · obtain ⟨b, off, rfl, y0⟩ := nm_at (HN.out.fut RNm.stays hG.out).rep hlt
          obtain ⟨j, e, hj, hep⟩ := en_of HC3.out (hmem _ (List.getElem_mem hlt))
          have hnx : NL.take (k + 1) = NL.take k ++ [NL[k]] := List.take_succ_eq_append_getElem hlt
          have hso := sz_en HC3.out (List.mem_of_getElem? hj)
          have hZo := HZ3.out.fut hG.out
          have hpm := (hZo.each j e hj).2
          have hrk : e.rows ≤ 1048576 := by
            rw [HC3.out.rows e (List.mem_of_getElem? hj)]
            exact Nat.le_trans (List.length_filter_le _ _) (by omega)
          have hcw : e.cols.length ≤ 4398046511104 := by
            have h9 := congrArg List.length (HC3.out.cols e (List.mem_of_getElem? hj))
            rw [List.length_map, colsF_len] at h9
            rw [h9]
            refine fold_max (by decide) fun t ht => ?_
            obtain ⟨f, hf, rfl⟩ := List.mem_map.1 ht
            exact HL.out f (List.mem_filter.1 hf).1
          rw [← hep] at y0 hnx
          have hlk : (Instr.lookup 97 (.map (some w.heap.size)) (.string e.p) false).run Try.prog wo = .ok (.pointer (some ⟨e.blk, 0, none⟩)) wo := by
            rw [hZo.look hpm, getE_en HC3.out hj]; rfl
          have hlk1 : ∀ o, (Instr.lookup 97 (.map (some w.heap.size)) (.string e.p) false).run Try.prog (wo.alloc o) = .ok (.pointer (some ⟨e.blk, 0, none⟩)) (wo.alloc o) := fun o => by
            rw [(hZo.fut (Fut.alloc wo o)).look hpm, getE_en HC3.out hj]; rfl
          have hE := (hZo.each j e hj).1
          have y1 := cell_at hE.cell 0 _ rfl
          obtain ⟨A7, c7, hlv, hc7, _⟩ := hE.list.rep.form
          rw [List.length_map] at hlv hc7
          have y2 : ∀ o, (wo.alloc o).cell? ⟨e.blk, 1, none⟩ = some (.slice A7 e.cols.length c7) := fun o => (Fut.alloc wo o).cell (cell_at hE.cell 1 _ (by rw [hlv]; rfl))
          have e0 : (0 : Int) ≤ k ∧ (k : Int) < NL.length := by omega
          have hltI : (k : Int) < NL.length := by omega
          have HE := Lib.hid hE
          clear hE hZo hep
          go_wp2_with fail
          clear hlk hlk1 y1 y2
          have fb := Fut.alloc wo (.cells #[.string e.p, .int .i64 e.rows, .slice none 0 0] 64)
          have hbx := heap_alloc_new wo (.cells #[.string e.p, .int .i64 e.rows, .slice none 0 0] 64)
          have hbs : (wo.alloc (.cells #[.string e.p, .int .i64 e.rows, .slice none 0 0] 64)).heap.size = wo.heap.size + 1 := by simp
          obtain ⟨w4, hw4⟩ : ∃ W, wo.alloc (.cells #[.string e.p, .int .i64 e.rows, .slice none 0 0] 64) = W := ⟨_, rfl⟩
          rw [hw4] at fb hbx hbs ⊢
          clear hw4
          have HB := Lib.hid hbx
          have FB := Lib.hid fb
          clear hbx fb
          have hs3 : w3.heap.size ≤ wo.heap.size := hG.out.size
          go_loopw [101] (fun i wi => ∃ (q : Nat) (dv : Value), q ≤ e.cols.length ∧ i = .int .i64 q ∧ Hid (wi.heap[wo.heap.size]? = some (.cells #[.string e.p, .int .i64 e.rows, dv] 64 (0, 0))) ∧ Hid (OwnL 1 (wo.heap.size + 1) 3 RI wi dv (ints ((e.cols.take q).map (·.2.length)))) ∧ Hid (Fut wo wi)) (fun i _ => e.cols.length - (intOf i).toNat)
          case atStart => exact ⟨0, .slice none 0 0, Nat.zero_le _, rfl, HB, Lib.hid OwnL.nil, FB⟩
          case round =>
            obtain ⟨q, dv, hq, rfl, hBx, hDv, hFi⟩ := hrel
            by_cases hql : q < e.cols.length
            · have hEi := HE.out.fut hFi.out
              have hli := hEi.list
              rw [hlv] at hli
              obtain ⟨b7, off7, rfl, y2⟩ := mp_at (k := q) hli.rep (by rw [List.length_map]; exact hql)
              rw [List.getElem_map] at y2
              have hMq := (hEi.maps q _ (List.getElem?_eq_getElem hql)).1
              have hcn : e.cols.take (q + 1) = e.cols.take q ++ [e.cols[q]] := List.take_succ_eq_append_getElem hql
              have hDn : ints ((e.cols.take (q + 1)).map (·.2.length)) = ints ((e.cols.take q).map (·.2.length)) ++ [((e.cols[q].2.length : Nat) : Int)] := by
                unfold ints; rw [hcn, List.map_append, List.map_append]; rfl
              have hln := fun ty => hMq.len Try.underlying102 ty
              have hcl9 : (colE e.cols[q].2).length = e.cols[q].2.length := by unfold colE; rw [List.length_map]
              rw [hcl9] at hln
              generalize e.cols[q].2.length = m at *
              generalize e.cols[q].1 = mq at *
              have hdl : (ints ((e.cols.take q).map (·.2.length))).length = q := by unfold ints; rw [List.length_map, List.length_map, List.length_take]; omega
              generalize ints ((e.cols.take q).map (·.2.length)) = L0 at *
              obtain ⟨A5, c5, hdv, hc5, _⟩ := hDv.out.rep.form
              rw [hdl] at hdv hc5
              have hDw := Lib.hid hDv.out
              rw [hdv] at hBx hDw
              have x0 := cell_at hBx.out 2 _ rfl
              have e1 : (0 : Int) ≤ q ∧ (q : Int) < e.cols.length := by omega
              have hqI : (q : Int) < e.cols.length := by omega
              have hs8 := hFi.out.size
              replace hDn := Lib.hid hDn
              have hdL := Lib.hid hdl
              clear hdv hMq hcl9 hcn hli hEi hdl
              go_wp2_with (first | (at_builtin; refine wpList_append_LB (R := RI) (B := wo.heap.size + 1) (M := 1) (xs := L0) (ys := [(m : Int)]) (e := 3) (by go_simp) _ _ 62 rfl Try.underlying62 (.int .i64 0) 8 infoIn rfl (by decide) RI.one RI.keeps rfl rfl (hDw.out.fut RI.stays (Fut.alloc _ _)) (inOne _ _ _) ?l3 ?l4 ?b3 ?k3))
              case l3 => have := hdL.out; simp [maxLen]; omega
              case l4 => have := hdL.out; first | omega | (simp; omega)
              case b3 => have := (Array.getElem?_eq_some_iff.1 hBx.out).1; first | omega | (simp; omega)
              case k3 =>
              intro v' w' o' g' sn'
              have hdlt := fun y hy => (hDw.out.block y hy)
              have hB1 := (Only.grown (S := fun y => Value.ownBlock (.slice A5 q c5) = some y) g' fun y hy => hy).keeps ((Fut.alloc wr _).block hBx.out) (fun hy => by have := (hdlt _ hy).1; omega)
              have F1w := Fut.grown (hFi.out.trans (Fut.alloc wr _)) g' (fun y hy => by have := (hdlt y hy).1; omega)
              obtain ⟨A8, c8, rfl, hc8, _⟩ := o'.rep.form
              have x1 := cell_at hB1 2 _ rfl
              have x2 := free_at hB1 2
              have hi38 : (Try.prog.info? 62).map (·.size) = some 1 := by kernel_rfl
              obtain ⟨w5, hw5⟩ : ∃ W, w'.setCell ⟨wo.heap.size, 2, none⟩ (.slice A8 (L0 ++ [(m : Int)]).length c8) = W := ⟨_, rfl⟩
              have O5 : Only (fun y => y = wo.heap.size) w' w5 := hw5 ▸ Only.set _ _ rfl
              have hB5 : w5.heap[wo.heap.size]? = some (.cells #[.string e.p, .int .i64 e.rows, .slice A8 (L0 ++ [(m : Int)]).length c8] 64 (0, 0)) := by
                rw [← hw5]; simp [World.setCell, Array.getElem?_modify, hB1]
              have o5 : OwnL 1 (wo.heap.size + 1) 3 RI w5 (.slice A8 (L0 ++ [(m : Int)]).length c8) (L0 ++ [(m : Int)]) := OwnL.only o' (fun _ _ h => h) O5 (fun y hy (e9 : y = wo.heap.size) => by have := (o'.block y hy).1; omega)
              have F5 := Lib.hid (Only.toFut (S := fun y => y = wo.heap.size) ((Only.fut F1w).then O5 fun y hy _ => hy) (fun y hy => by omega))
              replace hB5 := Lib.hid hB5
              replace o5 := Lib.hid o5
              clear o' g' sn' hB1 F1w O5
              go_wp2_with (first | (refine wpList_store_1 (wanted_none rfl _) _ _ rfl rfl rfl hi38 rfl x1 x2 hw5 ?_))
              go_roundw
              case rel => exact ⟨q + 1, _, by omega, by go_num, hB5, by rw [hDn.out]; exact o5, F5⟩
              case measure => simp [intOf] <;> omega
            · obtain rfl : q = e.cols.length := by omega
              rw [List.take_length] at hDv
              have hdl : (ints (e.cols.map (·.2.length))).length = e.cols.length := by unfold ints; rw [List.length_map, List.length_map]
              obtain ⟨A5, c5, hdv, hc5, _⟩ := hDv.out.rep.form
              rw [hdl] at hdv hc5
              have hDw : OwnL 1 w3.heap.size 3 RI wr dv (ints (⟨e.p, e.rows, e.cols.map (·.2.length)⟩ : Sz).ds) := hDv.out.base (by omega)
              rw [hdv] at hBx hDw
              have x0 := cell_at hBx.out 0 _ rfl
              have x1 := cell_at hBx.out 1 _ rfl
              have x2 := cell_at hBx.out 2 _ rfl
              have hOk := hF.out.fut RSz.stays hFi.out
              have hs8 := hFi.out.size
              have hlk : ((NL.take k).map (szOf X)).length = k := by rw [List.length_map, List.length_take]; omega
              have hNn : (NL.take (k + 1)).map (szOf X) = (NL.take k).map (szOf X) ++ [⟨e.p, e.rows, e.cols.map (·.2.length)⟩] := by
                rw [hnx, List.map_append, List.map_cons, List.map_nil, hso]
              generalize (NL.take k).map (szOf X) = L0 at *
              replace hNn := Lib.hid hNn
              have hlK := Lib.hid hlk
              clear hdv hdl hlk
              go_wp2_with (first | (at_builtin; refine wpList_append_LB (R := RSz w3.heap.size) (B := w3.heap.size) (M := 1) (xs := L0) (ys := [⟨e.p, e.rows, e.cols.map (·.2.length)⟩]) (e := 64) (by go_simp) _ _ 60 rfl Try.underlying60 (.agg #[.string ⟨#[]⟩, .int .i64 0, .slice none 0 0]) 48 infoSz rfl (by decide) RSz.one (RSz.keeps (by decide)) rfl rfl (hOk.fut RSz.stays (Fut.alloc _ _)) (szOne hDw _) ?l3 ?l4 ?b3 ?k3))
              case l3 => have := hlK.out; simp [maxLen]; omega
              case l4 => have := hlK.out; first | omega | (simp; omega)
              case b3 => first | omega | (simp; omega)
              case k3 =>
              intro v' w' o' g' sn'
              have F' := Lib.hid (Fut.grown ((hG.out.trans hFi.out).trans (Fut.alloc _ _)) g' (fun y hy => (hOk.block y hy).1))
              have o5 := Lib.hid o'
              clear o' g' sn'
              go_wp2
              go_roundw
              case rel => exact ⟨k + 1, by omega, by go_num, by rw [hNn.out]; exact o5, F'⟩
              case measure => simp [intOf] <;> omega
        · obtain rfl : k = NL.length := by omega
          rw [List.take_length] at hF
          have hsw := FW3.out.size
          have hO2 := Lib.hid (OwnSz.base hF.out (by omega : w.heap.size ≤ w3.heap.size))
          have F2 := Lib.hid (FW3.out.trans hG.out)
          clear hF
          go_wp2
          go_ret
          exact ⟨_, rfl, by rw [HST.out]; exact hO2.out, F2.out⟩
end Go.Proofs.Ytkdnplebgmmclaa
