/- DLevB -/
import Derived.WalkMore
import Derived.Test.YtcpphabehpbmlaaC18
/- depend.Levels where a rule allows none. -/
namespace Go.Proofs.Ytcpphabehpbmlaa
open Go.RowKit Go.WideMaps Go.Maps
set_option linter.unusedSimpArgs false
set_option linter.unusedVariables false

theorem look0 {w : World} {b : Nat} {l : Nums} {s : ByteArray} (h : MapE strV w b (encN l)) (hs : ∀ x ∈ l, x.1.size ≤ 140737488351232) (hp : s.size ≤ 140737488351232) : (Instr.lookup tVm (.map (some b)) (.string s) false).run Try.prog w = .ok (.int .i64 (lk0 l s : Nat)) w := (look_num h hs hp).2
theorem sl_mem' {α : Type} {sz M : Nat} {R : World → List Value → α → Prop} {w : World} {v : Value} {xs : List α} (h : SlRep sz M R w v xs) : ∀ x ∈ xs, ∃ cs, R w cs x := sl_mem h
theorem ed_to' (rs : List Ru) (hp : ∀ r ∈ rs, ∀ x ∈ r.b, x.p.size ≤ 140737488351232) : ∀ e ∈ edgesP rs, e.t.size ≤ 140737488351232 := fun e he => by
  unfold edgesP at he
  obtain ⟨⟨r, i⟩, hr, he⟩ := List.mem_flatMap.1 he
  unfold Ru.edges at he
  obtain ⟨x, hx, rfl⟩ := List.mem_map.1 he
  have hr2 : r ∈ rs := by
    have := List.mem_zipIdx hr
    obtain ⟨_, _, h3⟩ := this
    rw [h3]
    exact List.getElem_mem _
  exact hp r hr2 x (List.mem_filter.1 hx).1
theorem rus_ok' {M : Nat} {w : World} {v : Value} {rs : List Ru} (h : SlRep 3 M RRu w v rs) : (∀ r ∈ rs, r.p.size ≤ 140737488351232) ∧ ∀ r ∈ rs, ∀ x ∈ r.b, x.p.size ≤ 140737488351232 := by
  refine ⟨fun r hr => ?_, fun r hr x hx => ?_⟩
  · obtain ⟨cs, hv, bv, _, h1, _⟩ := sl_mem h r hr
    exact h1
  · obtain ⟨cs, hv, bv, _, _, _, h2⟩ := sl_mem h r hr
    obtain ⟨cs', hr'⟩ := sl_mem h2 x hx
    obtain ⟨_, _, _, _, _, _, _, _, _, _, _, hc⟩ := lt_cs hr'
    exact hc.pw
theorem infoEdZ' : (Try.prog.info? 47).map (fun i => (i.zero, i.size)) = some (some (.agg #[.string ⟨#[]⟩, .string ⟨#[]⟩, .int .i8 0, .int .i64 0]), 4) := by kernel_rfl
theorem ed_at' {M : Nat} {w : World} {A : Option Addr} {n cap : Nat} {xs : List Ed} (h : SlRep 4 M REd w (.slice A n cap) xs) {k : Nat} (hk : k < xs.length) :
    ∃ b off, A = some ⟨b, off, none⟩ ∧ ∀ j v, ([.string (xs[k]).f, .string (xs[k]).t, .int .i8 (xs[k]).k, .int .i64 (xs[k]).r] : List Value)[j]? = some v → w.cell? ⟨b, off + k * 4 + j, none⟩ = some v := by
  obtain ⟨A1, cap1, hv, _, _, h3⟩ := h
  obtain ⟨b, off, cs, hA, hl, hc, hr⟩ := h3 k _ (List.getElem?_eq_getElem hk)
  injection hv with hv _ _
  obtain rfl : cs = _ := hr
  exact ⟨b, off, hv.trans hA, fun j v hj => by rw [Nat.add_assoc]; exact hc j v hj⟩
theorem gri_base {B B' mb : Nat} {W : World} {G : Gr} (h : GrI B W mb G) (hB : B' ≤ B) : GrI B' W mb G := by
  obtain ⟨vs, h1, h2, h3, h4, h5, h6⟩ := h
  exact ⟨vs, h1, h2, fun i v x a b => (h3 i v x a b).base hB, h4, h5, Nat.le_trans hB h6⟩
theorem edgeP_ok {M : Nat} {w : World} {v : Value} {rs : List Ru} (h : SlRep 3 M RRu w v rs) : ∀ e ∈ edgesP rs, e.f.size ≤ 140737488351232 ∧ e.t.size ≤ 140737488351232 := fun e he => by
  refine ⟨?_, ed_to' rs (rus_ok' h).2 e he⟩
  unfold edgesP at he
  obtain ⟨⟨r, i⟩, hr, he⟩ := List.mem_flatMap.1 he
  unfold Ru.edges at he
  obtain ⟨x, hx, rfl⟩ := List.mem_map.1 he
  have hr2 : r ∈ rs := by
    obtain ⟨_, _, h3⟩ := List.mem_zipIdx hr
    rw [h3]
    exact List.getElem_mem _
  exact (rus_ok' h).1 r hr2
set_option maxHeartbeats 4000000 in
set_option maxRecDepth 100000 in
theorem levelsB_any {M : Nat} (A : Option Addr) (c : Nat) (rs : List Ru) (w : World) (h : SlRep 3 M RRu w (.slice A rs.length c) rs) (hM : M ≤ 9223372036854775807) (hS : Small rs) (N : Nat) (T : TS) (hT : tarjT (drawP rs) N = some T) (hGl : (drawP rs).length ≤ 100000000) (x : Ed) (hx : blameE T.inn (edgesP rs) = some x) :
    Calls Try.prog 18 #[.agg #[.slice A rs.length c]] w fun e w' => e = .returned (.tuple #[.slice none 0 0, .int .i64 x.r, .int .i64 x.errno]) ∧ Fut w w' := by
  obtain ⟨_, _, hv, hl1, hl2⟩ := h.form
  have hxl : rs.length ≤ 9223372036854775807 := by omega
  have HE := Lib.hid (fun W (hW : Fut w W) => edges_any A c rs W (h.fut RRu.stays hW) hM hS)
  have HD := Lib.hid (fun W (hW : Fut w W) => draw_any A c rs W (h.fut RRu.stays hW) hM hS)
  have HO := Lib.hid (edgeP_ok h)
  have HN := hS.edges
  have hbx := heap_alloc_new w (.cells #[.slice A rs.length c] 27)
  have F0 := Lib.hid (Fut.alloc w (.cells #[.slice A rs.length c] 27))
  have c0 := cell_at hbx 0 (.slice A rs.length c) rfl
  have hT' := Lib.hid hT
  have hGl' := Lib.hid hGl
  have hx' := Lib.hid hx
  clear h hS hl1 hl2 hv hbx hT hGl hx
  go_enter Try.func18, Try.ntmps18
  go_wp2_with fail
  go_step3
  go_wp2_with fail
  refine wp_graph 4 [.d, .r (fun v W => OwnL 4 w.heap.size tEdge REd W v (edgesP rs)), .d, .r (fun v W => ∃ mb, v = .map (some mb) ∧ GrI w.heap.size W mb (drawP rs))] (by kernel_rfl) (by kernel_rfl) (by kernel_rfl) ?_
  simp only [List.take_succ_cons, List.take_zero, List.drop_succ_cons, List.drop_zero, Exs]
  iterate 2 apply Exists.intro
  apply Run.valG (wanted_none rfl _)
  · intro w1 h1 hk
    have q0 := h1.cell c0; have hg := F0.out.trans ((Fut.drew _).trans h1); have hgs := hg.size
    have hcw := fun b o => Below.cell (p := ⟨b, o, none⟩) h1
    go_simp; rfl
  simp only [Act.put, List.setIfInBounds_toArray, List.set_cons_succ, List.set_cons_zero, List.nil_append, List.cons_append]
  apply Run.callR (wanted_none rfl _) (by intro v w w' hf hs; exact hs.fut REd.stays hf) (fun _ _ => by go_simp; exact ⟨rfl, rfl⟩)
  · intro w1 h1 hk
    have q0 := h1.cell c0; have hg := F0.out.trans ((Fut.drew _).trans h1); have hgs := hg.size
    refine (HE.out _ hg).mono ?_; rintro e w' ⟨v, rfl, ho, hf⟩; exact ⟨_, rfl, hf, ho.base hgs⟩
  intro v1
  simp only [Act.put, List.setIfInBounds_toArray, List.set_cons_succ, List.set_cons_zero, List.nil_append, List.cons_append]
  apply Run.valG (wanted_none rfl _)
  · intro w1 h1 hk
    have q0 := h1.cell c0; have hg := F0.out.trans ((Fut.drew _).trans h1); have hgs := hg.size
    have hcw := fun b o => Below.cell (p := ⟨b, o, none⟩) h1
    go_simp; rfl
  simp only [Act.put, List.setIfInBounds_toArray, List.set_cons_succ, List.set_cons_zero, List.nil_append, List.cons_append]
  apply Run.callR (wanted_none rfl _) (by intro v w w' hf hs; exact (by obtain ⟨mb, g1, g2⟩ := hs; exact ⟨mb, g1, g2.fut hf⟩)) (fun _ _ => by go_simp; exact ⟨rfl, rfl⟩)
  · intro w1 h1 hk
    have f1 := Facts.get hk 0 rfl (by kernel_rfl)
    have q0 := h1.cell c0; have hg := F0.out.trans ((Fut.drew _).trans h1); have hgs := hg.size
    refine (HD.out _ hg).mono ?_; rintro e w' ⟨mb, rfl, ho, hf⟩; exact ⟨_, rfl, hf, mb, rfl, gri_base ho hgs⟩
  intro v3
  simp only [Act.put, List.setIfInBounds_toArray, List.set_cons_succ, List.set_cons_zero, List.nil_append, List.cons_append]
  apply Run.done
  intro w2 h2 hk
  obtain ⟨f1, f3, _⟩ := hk
  obtain ⟨Ae, ce, rfl, hel1, hel2⟩ := f1.rep.form
  obtain ⟨mb, rfl, hG⟩ := f3
  have FE := Lib.hid (F0.out.trans ((Fut.drew _).trans h2))
  have HOw := Lib.hid f1
  have HP := Lib.hid (parts_any N T w2 hG hGl'.out hT'.out)
  clear h2 f1 hG c0
  go_wp2_with fail
  refine HP.out.mono ?_
  rintro e w3 ⟨imb, ov, rfl, hm, hms, ho, f3⟩
  have HM := Lib.hid hm
  have HMS := Lib.hid hms
  have F3 := Lib.hid (FE.out.trans f3)
  have HO3 := Lib.hid (HOw.out.fut REd.stays f3)
  clear hm hms ho f3 HP HOw
  unfold blameE at hx'
  obtain ⟨es, hes⟩ : ∃ es, edgesP rs = es := ⟨_, rfl⟩
  rw [hes] at hx' HO3 HN HO
  rw [hes]
  clear hes HE HD
  go_wp2_with fail
  go_loopw [30] (fun i wr => ∃ k : Nat, k ≤ es.length ∧ i = .int .i64 k ∧ Hid (Fut w3 wr) ∧ Hid (∀ e ∈ es.take k, (e.strict && decide (lk0 T.inn e.f = lk0 T.inn e.t)) = false)) (fun i _ => es.length - (intOf i).toNat)
  case atStart => exact ⟨0, Nat.zero_le _, rfl, Lib.hid (Fut.refl _), Lib.hid (fun r hr => by simp at hr)⟩
  case round =>
    obtain ⟨k, hk, rfl, hF, hA⟩ := hrel
    by_cases hlt : k < es.length
    · have hltI : (k : Int) < es.length := by omega
      have e0 : (0 : Int) ≤ k ∧ (k : Int) < es.length := by omega
      obtain ⟨b', off, rfl, hcs⟩ := ed_at' (HO3.out.fut REd.stays hF.out).rep hlt
      have htk := Lib.hid (List.take_succ_eq_append_getElem hlt)
      have hmem := Lib.hid (List.getElem_mem hlt)
      have hsz := HO.out _ hmem.out
      obtain ⟨y, hyk⟩ : ∃ y, es[k] = y := ⟨_, rfl⟩
      rw [hyk] at hcs htk hmem hsz
      replace hyk := Lib.hid hyk
      obtain ⟨w4, hw4⟩ : ∃ W, wr.alloc (.cells [.string y.f, .string y.t, .int .i8 y.k, .int .i64 y.r].toArray 47) = W := ⟨_, rfl⟩
      have f1 : Fut wr w4 := by rw [← hw4]; exact Fut.alloc _ _
      have hrb : w4.heap[wr.heap.size]? = some (.cells #[.string y.f, .string y.t, .int .i8 y.k, .int .i64 y.r] 47 (0, 0)) := by rw [← hw4]; exact heap_alloc_new wr _
      have q0 := cell_at hrb 0 (.string y.f) rfl
      have q1 := cell_at hrb 1 (.string y.t) rfl
      have q2 := cell_at hrb 2 (.int .i8 y.k) rfl
      have q3 := cell_at hrb 3 (.int .i64 y.r) rfl
      have hm4 := HM.out.fut (hF.out.trans f1)
      have l1 := look0 hm4 HMS.out hsz.1
      have l2 := look0 hm4 HMS.out hsz.2
      have hone : ∀ v ∈ ([.string y.f, .string y.t, .int .i8 y.k, .int .i64 y.r] : List Value), v.oneCell' = true := fun v hv => by
        simp only [List.mem_cons, List.not_mem_nil, or_false] at hv
        rcases hv with rfl | rfl | rfl | rfl <;> rfl
      have hw4h := Lib.hid hw4
      have hcs9 := Lib.hid hcs
      have FN := Lib.hid (hF.out.trans f1)
      clear hw4 f1 hrb hcs hsz hm4
      have next : (y.strict && decide (lk0 T.inn y.f = lk0 T.inn y.t)) = false → Hid (∀ e ∈ es.take (k + 1), (e.strict && decide (lk0 T.inn e.f = lk0 T.inn e.t)) = false) := fun hy => Lib.hid fun z hz => by
        rw [htk.out, List.mem_append] at hz
        rcases hz with hz | hz
        · exact hA.out z hz
        · rw [List.mem_singleton] at hz; subst hz; exact hy
      by_cases e1 : y.k = 1
      · have HA4 := next (by unfold Ed.strict; rw [e1]; rfl)
        clear next
        go_wp2_with (first | (refine wpList_rangeBox [.string y.f, .string y.t, .int .i8 y.k, .int .i64 y.r] rfl rfl rfl rfl rfl rfl rfl hcs9.out Try.underlying47 infoEdZ' rfl hone rfl rfl hw4h.out ?_))
        go_roundw
        case rel => exact ⟨k + 1, by omega, by go_num, FN, HA4⟩
        case measure => simp [intOf] <;> omega
      · by_cases e2 : lk0 T.inn y.f = lk0 T.inn y.t
        · have hyx : x = y := by
            have hsp := List.take_append_drop k es
            have h8 : es.drop k = y :: es.drop (k + 1) := by
              rw [List.drop_eq_getElem_cons hlt, hyk.out]
            have h9 := hx'.out
            rw [← hsp, List.find?_append, h8, List.find?_eq_none.2 (fun z hz => by rw [hA.out z hz]; decide), List.find?_cons_of_pos (by unfold Ed.strict; rw [decide_eq_false e1, decide_eq_true e2]; rfl)] at h9
            exact (Option.some.inj h9).symm
          replace hyx := Lib.hid hyx
          have hex := hyx.out.symm
          clear next
          generalize lk0 T.inn y.f = n1 at *
          generalize lk0 T.inn y.t = n2 at *
          subst e2
          by_cases e8 : y.k = 2
          · have hen : y.errno = 90 := by unfold Ed.errno; rw [if_pos e8]
            replace hen := Lib.hid hen
            replace hex := Lib.hid hex
            go_wp2_with (first | (refine wpList_rangeBox [.string y.f, .string y.t, .int .i8 y.k, .int .i64 y.r] rfl rfl rfl rfl rfl rfl rfl hcs9.out Try.underlying47 infoEdZ' rfl hone rfl rfl hw4h.out ?_))
            refine wp_graph 5 [.d, .d, .d, .d, .d] (by kernel_rfl) (by kernel_rfl) (by kernel_rfl) ?_
            simp only [List.take_succ_cons, List.take_zero, List.drop_succ_cons, List.drop_zero, Exs]
            iterate 5 apply Exists.intro
            apply Run.valG (wanted_none rfl _)
            · intro w1 h1 hk
              have r3 := h1.cell q3
              have hcw := fun b o => Below.cell (p := ⟨b, o, none⟩) h1
              go_simp; rfl
            simp only [Act.put, List.setIfInBounds_toArray, List.set_cons_succ, List.set_cons_zero, List.nil_append, List.cons_append]
            apply Run.valG (wanted_none rfl _)
            · intro w1 h1 hk
              have r3 := h1.cell q3
              have hcw := fun b o => Below.cell (p := ⟨b, o, none⟩) h1
              go_simp; rfl
            simp only [Act.put, List.setIfInBounds_toArray, List.set_cons_succ, List.set_cons_zero, List.nil_append, List.cons_append]
            apply Run.valG (wanted_none rfl _)
            · intro w1 h1 hk
              have r3 := h1.cell q3
              have hcw := fun b o => Below.cell (p := ⟨b, o, none⟩) h1
              go_simp; rfl
            simp only [Act.put, List.setIfInBounds_toArray, List.set_cons_succ, List.set_cons_zero, List.nil_append, List.cons_append]
            apply Run.valG (wanted_none rfl _)
            · intro w1 h1 hk
              have r3 := h1.cell q3
              have hcw := fun b o => Below.cell (p := ⟨b, o, none⟩) h1
              go_simp; rfl
            simp only [Act.put, List.setIfInBounds_toArray, List.set_cons_succ, List.set_cons_zero, List.nil_append, List.cons_append]
            apply Run.valG (wanted_none rfl _)
            · intro w1 h1 hk
              have r3 := h1.cell q3
              have hcw := fun b o => Below.cell (p := ⟨b, o, none⟩) h1
              go_simp; rfl
            simp only [Act.put, List.setIfInBounds_toArray, List.set_cons_succ, List.set_cons_zero, List.nil_append, List.cons_append]
            apply Run.done
            intro w2 h2 hk
            clear hk
            have F9 := (F3.out.trans FN.out).trans ((Fut.drew _).trans h2)
            clear h2
            go_wp2
            (try rw [Exit.noGoto_ret])
            (try simp only [Exit.inBlock, Exit.then])
            (try rw [Exit.noGoto_ret])
            refine bodyPost_ret (v := .tuple #[.slice none 0 0, .int .i64 y.r, .int .i64 90]) (by simp [results, Try.results18, go_sem]) rfl ?_
            exact ⟨by rw [← hex.out, hen.out], F9⟩
          · by_cases e9 : y.k = 3
            · have hen : y.errno = 91 := by unfold Ed.errno; rw [if_neg e8, if_pos e9]
              replace hen := Lib.hid hen
              replace hex := Lib.hid hex
              go_wp2_with (first | (refine wpList_rangeBox [.string y.f, .string y.t, .int .i8 y.k, .int .i64 y.r] rfl rfl rfl rfl rfl rfl rfl hcs9.out Try.underlying47 infoEdZ' rfl hone rfl rfl hw4h.out ?_))
              refine wp_graph 5 [.d, .d, .d, .d, .d] (by kernel_rfl) (by kernel_rfl) (by kernel_rfl) ?_
              simp only [List.take_succ_cons, List.take_zero, List.drop_succ_cons, List.drop_zero, Exs]
              iterate 5 apply Exists.intro
              apply Run.valG (wanted_none rfl _)
              · intro w1 h1 hk
                have r3 := h1.cell q3
                have hcw := fun b o => Below.cell (p := ⟨b, o, none⟩) h1
                go_simp; rfl
              simp only [Act.put, List.setIfInBounds_toArray, List.set_cons_succ, List.set_cons_zero, List.nil_append, List.cons_append]
              apply Run.valG (wanted_none rfl _)
              · intro w1 h1 hk
                have r3 := h1.cell q3
                have hcw := fun b o => Below.cell (p := ⟨b, o, none⟩) h1
                go_simp; rfl
              simp only [Act.put, List.setIfInBounds_toArray, List.set_cons_succ, List.set_cons_zero, List.nil_append, List.cons_append]
              apply Run.valG (wanted_none rfl _)
              · intro w1 h1 hk
                have r3 := h1.cell q3
                have hcw := fun b o => Below.cell (p := ⟨b, o, none⟩) h1
                go_simp; rfl
              simp only [Act.put, List.setIfInBounds_toArray, List.set_cons_succ, List.set_cons_zero, List.nil_append, List.cons_append]
              apply Run.valG (wanted_none rfl _)
              · intro w1 h1 hk
                have r3 := h1.cell q3
                have hcw := fun b o => Below.cell (p := ⟨b, o, none⟩) h1
                go_simp; rfl
              simp only [Act.put, List.setIfInBounds_toArray, List.set_cons_succ, List.set_cons_zero, List.nil_append, List.cons_append]
              apply Run.valG (wanted_none rfl _)
              · intro w1 h1 hk
                have r3 := h1.cell q3
                have hcw := fun b o => Below.cell (p := ⟨b, o, none⟩) h1
                go_simp; rfl
              simp only [Act.put, List.setIfInBounds_toArray, List.set_cons_succ, List.set_cons_zero, List.nil_append, List.cons_append]
              apply Run.done
              intro w2 h2 hk
              clear hk
              have F9 := (F3.out.trans FN.out).trans ((Fut.drew _).trans h2)
              clear h2
              go_wp2
              (try rw [Exit.noGoto_ret])
              (try simp only [Exit.inBlock, Exit.then])
              (try rw [Exit.noGoto_ret])
              refine bodyPost_ret (v := .tuple #[.slice none 0 0, .int .i64 y.r, .int .i64 91]) (by simp [results, Try.results18, go_sem]) rfl ?_
              exact ⟨by rw [← hex.out, hen.out], F9⟩
            · have hen : y.errno = 92 := by unfold Ed.errno; rw [if_neg e8, if_neg e9]
              replace hen := Lib.hid hen
              replace hex := Lib.hid hex
              go_wp2_with (first | (refine wpList_rangeBox [.string y.f, .string y.t, .int .i8 y.k, .int .i64 y.r] rfl rfl rfl rfl rfl rfl rfl hcs9.out Try.underlying47 infoEdZ' rfl hone rfl rfl hw4h.out ?_))
              refine wp_graph 5 [.d, .d, .d, .d, .d] (by kernel_rfl) (by kernel_rfl) (by kernel_rfl) ?_
              simp only [List.take_succ_cons, List.take_zero, List.drop_succ_cons, List.drop_zero, Exs]
              iterate 5 apply Exists.intro
              apply Run.valG (wanted_none rfl _)
              · intro w1 h1 hk
                have r3 := h1.cell q3
                have hcw := fun b o => Below.cell (p := ⟨b, o, none⟩) h1
                go_simp; rfl
              simp only [Act.put, List.setIfInBounds_toArray, List.set_cons_succ, List.set_cons_zero, List.nil_append, List.cons_append]
              apply Run.valG (wanted_none rfl _)
              · intro w1 h1 hk
                have r3 := h1.cell q3
                have hcw := fun b o => Below.cell (p := ⟨b, o, none⟩) h1
                go_simp; rfl
              simp only [Act.put, List.setIfInBounds_toArray, List.set_cons_succ, List.set_cons_zero, List.nil_append, List.cons_append]
              apply Run.valG (wanted_none rfl _)
              · intro w1 h1 hk
                have r3 := h1.cell q3
                have hcw := fun b o => Below.cell (p := ⟨b, o, none⟩) h1
                go_simp; rfl
              simp only [Act.put, List.setIfInBounds_toArray, List.set_cons_succ, List.set_cons_zero, List.nil_append, List.cons_append]
              apply Run.valG (wanted_none rfl _)
              · intro w1 h1 hk
                have r3 := h1.cell q3
                have hcw := fun b o => Below.cell (p := ⟨b, o, none⟩) h1
                go_simp; rfl
              simp only [Act.put, List.setIfInBounds_toArray, List.set_cons_succ, List.set_cons_zero, List.nil_append, List.cons_append]
              apply Run.valG (wanted_none rfl _)
              · intro w1 h1 hk
                have r3 := h1.cell q3
                have hcw := fun b o => Below.cell (p := ⟨b, o, none⟩) h1
                go_simp; rfl
              simp only [Act.put, List.setIfInBounds_toArray, List.set_cons_succ, List.set_cons_zero, List.nil_append, List.cons_append]
              apply Run.done
              intro w2 h2 hk
              clear hk
              have F9 := (F3.out.trans FN.out).trans ((Fut.drew _).trans h2)
              clear h2
              go_wp2
              (try rw [Exit.noGoto_ret])
              (try simp only [Exit.inBlock, Exit.then])
              (try rw [Exit.noGoto_ret])
              refine bodyPost_ret (v := .tuple #[.slice none 0 0, .int .i64 y.r, .int .i64 92]) (by simp [results, Try.results18, go_sem]) rfl ?_
              exact ⟨by rw [← hex.out, hen.out], F9⟩
        · have HA4 := next (by rw [decide_eq_false e2, Bool.and_false])
          generalize lk0 T.inn y.f = n1 at *
          generalize lk0 T.inn y.t = n2 at *
          have e3 : ¬ (n1 : Int) = (n2 : Int) := by omega
          have e4 : ((n1 : Int) == (n2 : Int)) = false := by rw [beq_eq_false_iff_ne]; exact e3
          have e5 : ((n1 : Int) != (n2 : Int)) = true := by simp [bne, e4]
          have e6 : (n1 == n2) = false := by rw [beq_eq_false_iff_ne]; exact e2
          have e7 : (n1 != n2) = true := by simp [bne, e6]
          clear next
          go_wp2_with (first | (refine wpList_rangeBox [.string y.f, .string y.t, .int .i8 y.k, .int .i64 y.r] rfl rfl rfl rfl rfl rfl rfl hcs9.out Try.underlying47 infoEdZ' rfl hone rfl rfl hw4h.out ?_))
          go_roundw
          case rel => exact ⟨k + 1, by omega, by go_num, FN, HA4⟩
          case measure => simp [intOf] <;> omega
    · exfalso
      obtain rfl : k = es.length := by omega
      have h1 := List.find?_some hx'.out
      have h2 := hA.out x (by rw [List.take_length]; exact List.mem_of_find?_eq_some hx'.out)
      rw [h1] at h2
      cases h2
end Go.Proofs.Ytcpphabehpbmlaa
