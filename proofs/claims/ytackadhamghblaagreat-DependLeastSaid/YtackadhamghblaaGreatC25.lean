/- KeysC, ReachW, DPlain, DLaw, DOther, DOtherW, DLiveP, DLives, AheadP -/
import Derived.Test.YtackadhamghblaaGreatC24
/- slices.Collect(maps.Keys(m)) of a set of texts; slices.SortedFunc of it by strings.Compare. -/
namespace Go.Proofs.YtackadhamghblaaGreat
open Go.RowKit Go.Maps Go.WideShapes Go.Shelf
open Go.WideElems (Fit rd rg pl rd_val rg_of elemAt)
set_option linter.unusedSimpArgs false
set_option linter.unusedVariables false

theorem collect_set {w : World} {mb : Nat} {l : List (ByteArray × Value)} (h : MapE strV w mb l) (hk : ∀ q ∈ l, q.1.size ≤ maxLen) (hb : l.length ≤ 8796093022207) :
    Calls Tryz.prog 44 #[.func (.func 46) #[] #[.pointer (some ⟨w.heap.size, 0, none⟩)]] (w.alloc (.cells #[.map (some mb)] tSt))
      fun e w' => ∃ v N, e = .returned v ∧ N.Perm (l.map (·.1)) ∧ OwnL 1 (w.heap.size + 1) 9 RNm w' v N ∧ Fut (w.alloc (.cells #[.map (some mb)] tSt)) w' := by
  have hnd := h.nodup
  obtain ⟨es, clock, hbk, hst, hes⟩ := h
  have hlen : es.size = l.length := by
    have := congrArg List.length hes
    simpa using this
  have hkey : ∀ x ∈ es.toList, ∃ q ∈ l, x.key = strV q.1 := fun x hx => by
    have hm : (x.key, x.val) ∈ es.toList.map (fun e => (e.key, e.val)) := List.mem_map.2 ⟨x, hx, rfl⟩
    rw [hes] at hm
    obtain ⟨q, hq, e⟩ := List.mem_map.1 hm
    injection e with e1 _
    exact ⟨q, hq, e1.symm⟩
  have hrd : ∀ x ∈ es.toList, ∀ q ∈ l, x.key = strV q.1 → rd Tryz.prog 9 (fun _ => some ((DataW.nil : DataW Unit), [])) x = some (.string q.1.data.toList, .nil) := fun x _ q hq e => by
    unfold rd
    rw [e, keyOf_str (hk q hq)]; rfl
  have F : Fit Tryz.prog 9 (fun _ => some ((DataW.nil : DataW Unit), [])) es clock := ⟨by unfold maxLen; omega, hst, fun x hx => by
    obtain ⟨q, hq, e⟩ := hkey x hx
    exact ⟨_, hrd x hx q hq e⟩⟩
  have hown := World.ownsMap_of_fit (R := fun _ => some ((DataW.nil : DataW Unit), [])) hbk F (fun _ _ _ h => h)
  have hsz : Maps.size (DataW.map ((es.toList.map (rg Tryz.prog 9 (fun _ => some ((DataW.nil : DataW Unit), [])))).foldr DataW.insert [])) = es.size := by simp [Maps.size, length_read]
  have hperm : (strKeys (DataW.map ((es.toList.map (rg Tryz.prog 9 (fun _ => some ((DataW.nil : DataW Unit), [])))).foldr DataW.insert []))).Perm ((l.map (·.1)).map (·.data.toList)) := by
    show (((es.toList.map (rg Tryz.prog 9 (fun _ => some ((DataW.nil : DataW Unit), [])))).foldr DataW.insert []).map fun p => strOf p.1).Perm _
    refine ((sorted_perm _).map _).trans ?_
    rw [List.map_map, List.map_map]
    have e2 : ∀ (xs : List MapEntry) (ql : List (ByteArray × Value)), (∀ x ∈ xs, x ∈ es.toList) → (∀ q ∈ ql, q ∈ l) → xs.map (fun e => (e.key, e.val)) = ql.map (fun p => (strV p.1, p.2)) →
        xs.map ((fun p => strOf p.1) ∘ rg Tryz.prog 9 (fun _ => some ((DataW.nil : DataW Unit), []))) = ql.map ((fun x => x.data.toList) ∘ fun x => x.1) := by
      intro xs
      induction xs with
      | nil => intro ql _ _ e; cases ql with
        | nil => rfl
        | cons a r => simp at e
      | cons x xs ih => intro ql h1 h2 e; cases ql with
        | nil => simp at e
        | cons q ql =>
          simp only [List.map_cons, List.cons.injEq, Prod.mk.injEq] at e
          rw [List.map_cons, List.map_cons, ih ql (fun y hy => h1 y (List.mem_cons_of_mem _ hy)) (fun y hy => h2 y (List.mem_cons_of_mem _ hy)) e.2]
          have h9 := rg_of (hrd x (h1 x List.mem_cons_self) q (h2 q List.mem_cons_self) e.1.1)
          simp only [Function.comp, h9, strOf]
    rw [e2 es.toList l (fun x hx => hx) (fun q hq => hq) hes]
  have hbl := hown.lt
  have hseq : SeqGives Fence.wide 3 Tryz.prog 46 #[.pointer (some ⟨w.heap.size, 0, none⟩)] encStr (fun ss => ss.Perm (strKeys (DataW.map ((es.toList.map (rg Tryz.prog 9 (fun _ => some ((DataW.nil : DataW Unit), [])))).foldr DataW.insert [])))) (Maps.size (DataW.map ((es.toList.map (rg Tryz.prog 9 (fun _ => some ((DataW.nil : DataW Unit), [])))).foldr DataW.insert []))) (w.alloc (.cells #[.map (some mb)] tSt)) :=
    AnyZ.keys_gives (ρ := Tryz.keys24_ren) { Tryz.keys24 with } Fence.wide _ trivial rfl (by omega) w.heap.size mb _ _ _ (by simp) (by simp) (by
      obtain ⟨es', clock', hb', Ft, hs', hD⟩ := hown
      exact ⟨es', clock', (Below.heap_alloc _ _ mb hbl).trans hb', Ft, hs', hD⟩)
  refine (callsIn_wide.1 (AnyZ.collect_in (ρ := Tryz.sorted41_ren) { Tryz.sorted41 with } Fence.wide 5 trivial trivial rfl (by omega) 46 #[.pointer (some ⟨w.heap.size, 0, none⟩)] trivial (enters_of Tryz.func46 (by kernel_rfl) rfl) _ _ (by rw [hsz]; unfold maxLen; omega) (by rw [hsz]; omega) _ hseq)).mono ?_
  rintro e w' ⟨v, ss, rfl, hS, hrow, _, hbw⟩
  have hs1 : (w.alloc (.cells #[.map (some mb)] tSt)).heap.size = w.heap.size + 1 := by simp
  have ho := names_of_row rfl hrow
  rw [hs1] at ho
  refine ⟨v, ss.map bytesOf', rfl, ?_, ho, hbw⟩
  have h9 := (hS.trans hperm).map bytesOf'
  have h8 : ((l.map (·.1)).map (·.data.toList)).map bytesOf' = l.map (·.1) := by
    rw [List.map_map]
    conv => rhs; rw [← List.map_id (l.map (·.1))]
    exact List.map_congr_left fun x _ => rfl
  rw [h8] at h9
  exact h9
set_option maxHeartbeats 1000000 in
theorem sortedF_any {w : World} {mb : Nat} {l : List (ByteArray × Value)} (h : MapE strV w mb l) (hne : l ≠ []) (hk : ∀ q ∈ l, q.1.size ≤ maxLen) (hb : l.length ≤ 8796093022207) :
    Calls Tryz.prog 23 #[.func (.func 46) #[] #[.pointer (some ⟨w.heap.size, 0, none⟩)], .func (.func 26) #[] #[]] (w.alloc (.cells #[.map (some mb)] tSt))
      fun e w' => ∃ v, e = .returned v ∧ OwnL 1 (w.heap.size + 1) 9 RNm w' v (sortU cmpS (l.map (·.1))) ∧ Fut (w.alloc (.cells #[.map (some mb)] tSt)) w' := by
  have hnd := h.nodup
  have HC := Lib.hid (collect_set h hk hb)
  obtain ⟨w0, hw0⟩ : ∃ W, w.alloc (.cells #[.map (some mb)] tSt) = W := ⟨_, rfl⟩
  have hz : w0.heap.size = w.heap.size + 1 := by rw [← hw0]; simp
  rw [hw0] at HC ⊢
  clear hw0 h hk
  go_enter Tryz.func23, Tryz.ntmps23
  go_wp2_with fail
  refine HC.out.mono ?_
  rintro e w1 ⟨v, N, rfl, hp, ho, f1⟩
  have HS := Lib.hid (sortN_any (B := w.heap.size + 1) w1 v N ho (fun e => hne (by rw [e] at hp; have h9 := hp.length_eq; rw [List.length_map] at h9; exact List.length_eq_zero_iff.1 h9.symm)) (by rw [hp.length_eq, List.length_map]; omega))
  obtain ⟨A1, c1, rfl, _, _⟩ := ho.rep.form
  have F1 := Lib.hid f1
  clear ho f1 HC
  go_wp2_with fail
  refine HS.out.mono ?_
  rintro e w2 ⟨rfl, ts, hp2, hs2, ho2, hf2⟩
  have HR := Lib.hid (show OwnL 1 (w.heap.size + 1) 9 RNm w2 (.slice A1 N.length c1) (sortU cmpS (l.map (·.1))) ∧ Fut w0 w2 from by
    have hnd2 : ts.Nodup := (hp2.trans hp).nodup_iff.2 hnd
    have he : ts = sortU cmpS (l.map (·.1)) := UpOf.eq totS ⟨up_of_sorted hs2 hnd2, fun x => (hp2.trans hp).mem_iff⟩
    rw [← he]
    exact ⟨ho2, hf2 w0 F1.out (by omega)⟩)
  clear ho2 hf2 hs2 hp2
  go_wp2
  go_ret
  exact ⟨_, rfl, HR.out⟩
end Go.Proofs.YtackadhamghblaaGreat
/- depend.Reach: what a name comes to, rising. -/
namespace Go.Proofs.YtackadhamghblaaGreat
open Go.RowKit Go.WideMaps Go.Maps
set_option linter.unusedSimpArgs false
set_option linter.unusedVariables false

theorem rch_len {rs : List Ru} (h : Small rs) {p : ByteArray} {L : List ByteArray} (hn : L.Nodup) (hL : ∀ x ∈ L, Rch (drawP rs) p x) : L.length ≤ 10000001 := by
  have h1 := draw_len h
  have h2 := nodup_le (m := p :: (drawP rs).names) hn fun x hx => by
    refine (hL x hx).closed (D := fun x => x ∈ p :: (drawP rs).names) (fun u _ t ht => ?_) List.mem_cons_self
    obtain ⟨e, he, _, rfl⟩ := edge_suc.1 ht
    exact List.mem_cons_of_mem _ (edge_names he).2
  rw [List.length_cons] at h2
  omega
set_option maxHeartbeats 2000000 in
set_option maxRecDepth 100000 in
theorem reachW_any {M : Nat} (A : Option Addr) (c : Nat) (rs : List Ru) (p : ByteArray) (w : World) (h : SlRep 3 M RRu w (.slice A rs.length c) rs) (hM : M ≤ 9223372036854775807) (hS : Small rs) (hp : p.size ≤ 140737488351232) :
    Calls Tryz.prog 9 #[.agg #[.slice A rs.length c], .string p] w fun e w' => ∃ v L, e = .returned v ∧ ReachOf rs p L ∧ OwnL 1 w.heap.size 9 RNm w' v L ∧ Fut w w' := by
  have f0 := Fut.alloc w (.cells #[.slice A rs.length c] 25)
  have HD := Lib.hid (draw_any A c rs (w.alloc (.cells #[.slice A rs.length c] 25)) (h.fut RRu.stays f0) hM hS)
  have hg := Lib.hid (sum_draw hS)
  have HL := Lib.hid (fun L hn hL => rch_len (p := p) (L := L) hS hn hL)
  have F0 := Lib.hid f0
  clear h hS f0
  go_enter Tryz.func9, Tryz.ntmps9
  go_wp2_with fail
  refine HD.out.mono ?_
  rintro e w2 ⟨mb, rfl, hG, f2⟩
  have F2 := Lib.hid (F0.out.trans f2)
  have f3 := Fut.alloc w2 (.cells #[.string p] 9)
  have hb3 := heap_alloc_new w2 (.cells #[.string p] 9)
  have hz3 : (w2.alloc (.cells #[.string p] 9)).heap.size = w2.heap.size + 1 := by simp
  have hO3 : OwnL 1 w2.heap.size 9 RNm (w2.alloc (.cells #[.string p] 9)) (.slice (some ⟨w2.heap.size, 0, none⟩) 1 1) [p] :=
    ⟨[[.string p]], rfl, fun i cs x hi hx => by
      match i, hi, hx with
      | 0, hi, hx => injection hi with hi; injection hx with hx; subst hi; subst hx; exact ⟨rfl, rfl⟩
      | i + 1, hi, hx => simp at hx, rfl, .inr ⟨w2.heap.size, 1, #[.string p], rfl, Nat.le_refl _, hb3, Nat.le_refl _, by unfold maxLen; omega, rfl, rfl⟩⟩
  have HR := Lib.hid (reachG_any (.slice (some ⟨w2.heap.size, 0, none⟩) 1 1) [p] w2 (w2.alloc (.cells #[.string p] 9)) hG f3 hO3 (by omega) (fun x hx => by rw [List.mem_singleton] at hx; subst hx; exact hp) (fun k hk => .inr (by
    have hk' : w2.heap.size = k := Option.some.inj hk
    omega)) (by have := hg.out; simp only [List.length_singleton]; omega))
  rw [hz3] at HR
  have HF3 := Lib.hid (F2.out.trans f3)
  have hs2 := F2.out.size
  clear hO3 hb3 f3 f2 HD hG
  go_wp2_with fail
  refine HR.out.mono ?_
  rintro e w4 ⟨L, rfl, hL, hn, hsz, hm, hO⟩
  have F4 := Lib.hid (show Fut w w4 from ((Only.fut HF3.out).trans (hO.mono (S' := fun k => w.heap.size ≤ k) fun k _ hk => by
    rcases hk with hk | hk
    · have hk' : w2.heap.size = k := Option.some.inj hk
      omega
    · omega)).toFut fun k hk => hk)
  have hpL : p ∈ L := (hL p).2 ⟨p, List.mem_singleton.2 rfl, .refl p⟩
  have hLr : ∀ x, x ∈ L ↔ Rch (drawP rs) p x := fun x => (hL x).trans ⟨fun ⟨f, h1, h2⟩ => by rw [List.mem_singleton] at h1; subst h1; exact h2, fun h => ⟨p, List.mem_singleton.2 rfl, h⟩⟩
  have hlen := HL.out L hn fun x hx => (hLr x).1 hx
  have HS := Lib.hid (sortedF_any hm (by
    intro e
    have h9 : (setE L).map (·.1) = [] := by rw [e]; rfl
    rw [setE_keys] at h9
    rw [h9] at hpL
    cases hpL) (setE_ok hsz) (by unfold setE; rw [List.length_map]; omega))
  rw [setE_keys] at HS
  have HO := Lib.hid (show ReachOf rs p (sortU cmpS L) from ⟨(sortU_spec totS L).1, fun x => ((sortU_spec totS L).2 x).trans (hLr x)⟩)
  have HK := Lib.hid (callsIn_wide.1 (Tryz.maps_Keys_24 (some (w2.heap.size + 1)) w4))
  clear hL hn hsz hm hO hpL hLr HL HR
  generalize sortU cmpS L = R at *
  go_wp2_with fail
  refine HK.out.mono ?_
  rintro e w5 ⟨rfl, rfl⟩
  go_wp2_with fail
  refine HS.out.mono ?_
  rintro e w6 ⟨v, rfl, ho, f6⟩
  have hs4 := F4.out.size
  have H6 := Lib.hid (And.intro (ho.base (show w.heap.size ≤ w4.heap.size + 1 by omega)) ((F4.out.trans (Fut.alloc w4 _)).trans f6))
  clear ho f6
  go_wp2
  go_ret
  exact ⟨_, R, rfl, HO.out, H6.out.1, H6.out.2⟩
end Go.Proofs.YtackadhamghblaaGreat
/- depend.Plain. -/
namespace Go.Proofs.YtackadhamghblaaGreat
open Go.RowKit
set_option linter.unusedSimpArgs false
set_option linter.unusedVariables false

def plainP (rs : List Ru) : Bool := !rs.any Ru.makes && oneP rs
set_option maxHeartbeats 1600000 in
set_option maxRecDepth 100000 in
theorem idxR_any {M : Nat} (A : Option Addr) (c : Nat) (rs : List Ru) (w : World) (h : SlRep 3 M RRu w (.slice A rs.length c) rs) (hM : M ≤ 9223372036854775807) (hS : Small rs) :
    Calls Tryz.prog 68 #[.slice A rs.length c, .func (.func 17) #[] #[]] w fun e w' => ∃ r : Int, e = .returned (.int .i64 r) ∧ decide (0 ≤ r) = rs.any Ru.makes ∧ Fut w w' := by
  have H := Lib.hid h
  have HS := Lib.hid hS
  obtain ⟨_, _, hv, hl1, hl2⟩ := h.form
  have hxl : rs.length ≤ 9223372036854775807 := by omega
  clear h hv hl1 hl2 hS
  go_enter Tryz.func68, Tryz.ntmps68
  go_wp2_with fail
  go_loopw [8] (fun i wr => ∃ k : Nat, k ≤ rs.length ∧ i = .int .i64 k ∧ Hid (∀ x ∈ rs.take k, x.makes = false) ∧ Hid (Fut w wr)) (fun i _ => rs.length - (intOf i).toNat)
  case atStart => exact ⟨0, Nat.zero_le _, rfl, Lib.hid (fun x hx => by simp at hx), Lib.hid (Fut.refl _)⟩
  case round =>
    obtain ⟨k, hk, rfl, hI, hF⟩ := hrel
    by_cases hlt : k < rs.length
    · have hltI : (k : Int) < rs.length := by omega
      have e0 : (0 : Int) ≤ k ∧ (k : Int) < rs.length := by omega
      obtain ⟨b, off, Ah, ch, Ab, cb, rfl, u0, u1, u2, hp, hh1, hh2⟩ := ru_at H.out hlt
      have y0 := hF.out.cell u0
      have y1 := hF.out.cell u1
      have y2 := hF.out.cell u2
      have hnx : Hid (rs.take (k + 1) = rs.take k ++ [rs[k]]) := Lib.hid (List.take_succ_eq_append_getElem hlt)
      have hmem : rs[k] ∈ rs := List.getElem_mem hlt
      have hbd := (HS.out.mem hmem).1
      generalize rs[k] = r at *
      have HD := Lib.hid (makes_any r Ah Ab ch cb wr hp (hh1.fut RAr.stays hF.out) (hh2.fut RLt.stays hF.out) (by omega))
      obtain ⟨d, hd⟩ : ∃ d, r.makes = d := ⟨_, rfl⟩
      have hd' := Lib.hid hd
      rw [hd] at HD
      clear hd u0 u1 u2 hh1 hh2
      cases d
      · go_wp2_with fail
        refine HD.out.mono ?_
        rintro e w3 ⟨rfl, f3⟩
        have F3 := Lib.hid (hF.out.trans f3)
        have hI2 : Hid (∀ x ∈ rs.take (k + 1), x.makes = false) := Lib.hid fun x hx => by
          rw [hnx.out, List.mem_append] at hx
          rcases hx with hx | hx
          · exact hI.out x hx
          · rw [List.mem_singleton] at hx; subst hx; exact hd'.out
        clear f3
        go_wp2
        go_roundw
        case rel => exact ⟨k + 1, by omega, by go_num, hI2, F3⟩
        case measure => simp [intOf] <;> omega
      · go_wp2_with fail
        refine HD.out.mono ?_
        rintro e w3 ⟨rfl, f3⟩
        go_wp2
        go_ret
        exact ⟨k, rfl, by
          have h9 : rs.any Ru.makes = true := List.any_eq_true.2 ⟨_, hmem, hd'.out⟩
          rw [h9]; simp, hF.out.trans f3⟩
    · obtain rfl : k = rs.length := by omega
      rw [List.take_length] at hI
      go_wp2
      go_ret
      exact ⟨-1, rfl, by
        have h9 : rs.any Ru.makes = false := List.any_eq_false.2 fun x hx => by rw [hI.out x hx]; decide
        rw [h9]; decide, hF.out⟩
set_option maxHeartbeats 1600000 in
theorem contR_any {M : Nat} (A : Option Addr) (c : Nat) (rs : List Ru) (w : World) (h : SlRep 3 M RRu w (.slice A rs.length c) rs) (hM : M ≤ 9223372036854775807) (hS : Small rs) :
    Calls Tryz.prog 49 #[.slice A rs.length c, .func (.func 17) #[] #[]] w fun e w' => e = .returned (.bool (rs.any Ru.makes)) ∧ Fut w w' := by
  have HI := Lib.hid (idxR_any A c rs w h hM hS)
  obtain ⟨b, hb⟩ : ∃ b, (rs.any Ru.makes) = b := ⟨_, rfl⟩
  rw [hb] at HI ⊢
  clear h hb
  go_enter Tryz.func49, Tryz.ntmps49
  go_wp2_with fail
  refine HI.out.mono ?_
  rintro e w1 ⟨r, rfl, hr, f1⟩
  by_cases h0 : 0 ≤ r
  · obtain rfl : b = true := by rw [← hr]; simp [h0]
    have h0' : r ≥ 0 := h0
    go_wp2
    go_ret
    exact ⟨by first | rfl | simp, f1⟩
  · obtain rfl : b = false := by rw [← hr]; simp [h0]
    have h0' : ¬ r ≥ 0 := h0
    go_wp2
    go_ret
    exact ⟨by first | rfl | simp, f1⟩
set_option maxHeartbeats 1600000 in
theorem plain_any {M : Nat} (A : Option Addr) (c : Nat) (rs : List Ru) (w : World) (h : SlRep 3 M RRu w (.slice A rs.length c) rs) (hM : M ≤ 9223372036854775807) (hS : Small rs) :
    Calls Tryz.prog 29 #[.slice A rs.length c] w fun e w' => e = .returned (.bool (plainP rs)) ∧ Fut w w' := by
  have HC := Lib.hid (contR_any A c rs w h hM hS)
  have HO := Lib.hid (fun W (hW : Fut w W) => one_any A c rs W (h.fut RRu.stays hW) hM hS)
  unfold plainP
  obtain ⟨a, ha⟩ : ∃ b, (rs.any Ru.makes) = b := ⟨_, rfl⟩
  obtain ⟨b, hb⟩ : ∃ b, oneP rs = b := ⟨_, rfl⟩
  rw [ha] at HC ⊢
  rw [hb] at HO ⊢
  clear h ha hb
  cases a
  · go_enter Tryz.func29, Tryz.ntmps29
    go_wp2_with fail
    refine HC.out.mono ?_
    rintro e w1 ⟨rfl, f1⟩
    go_wp2_with fail
    refine (HO.out _ f1).mono ?_
    rintro e w2 ⟨rfl, f2⟩
    go_wp2
    go_ret
    exact ⟨by first | rfl | simp, f1.trans f2⟩
  · go_enter Tryz.func29, Tryz.ntmps29
    go_wp2_with fail
    refine HC.out.mono ?_
    rintro e w1 ⟨rfl, f1⟩
    go_wp2
    go_ret
    exact ⟨by first | rfl | simp, f1⟩
end Go.Proofs.YtackadhamghblaaGreat
/- pedigreelaw09.nots, atoms. -/
namespace Go.Proofs.YtackadhamghblaaGreat
open Go.RowKit Go.WideMaps
set_option linter.unusedSimpArgs false
set_option linter.unusedVariables false

def RBo (_ : World) (cs : List Value) (b : Bool) : Prop := cs = [.bool b]
theorem RBo.stays : Stays RBo := fun _ _ _ _ _ h => h
theorem RBo.keeps {e : TypeId} : Keeps e RBo := fun _ _ _ _ _ h _ _ => h
theorem RBo.one : ∀ (w : World) cs x, RBo w cs x → ∀ u ∈ cs, u.oneCell' = true := fun w cs x h u hu => by
  obtain rfl : cs = _ := h
  simp only [List.mem_singleton] at hu
  subst hu; rfl
theorem infoBo : (Tryz.prog.info? 4).map (fun i => (i.zero, i.size, i.bytes)) = some (some (.bool false), 1, 1) := by kernel_rfl
theorem boOne (w : World) (b : Bool) (e : TypeId) : SlRep 1 1 RBo (w.alloc (.cells #[.bool b] e)) (.slice (some ⟨w.heap.size, 0, none⟩) 1 1) [b] := slOne w [.bool b] b e rfl rfl
theorem filt_takeG {α : Type} {l : List Lt} {k : Nat} (hk : k < l.length) (g : Lt → α) : ((l.take (k + 1)).filter Lt.isA).map g = ((l.take k).filter Lt.isA).map g ++ (if l[k].isA = true then [g l[k]] else []) := by
  rw [List.take_succ_eq_append_getElem hk, List.filter_append, List.map_append]
  cases h : l[k].isA <;> simp [h]
def notG (l : Lt) : Bool := decide (l.k = 2)
def lawEd (p : ByteArray) (m : Int) (l : Lt) : Ed := ⟨p, l.p, 0, m⟩
end Go.Proofs.YtackadhamghblaaGreat
/- pedigreelaw09.atom, other. -/
namespace Go.Proofs.YtackadhamghblaaGreat
open Go.RowKit Go.WideMaps
set_option linter.unusedSimpArgs false
set_option linter.unusedVariables false

def exZ : Ex := .mk 0 ⟨⟨#[]⟩, ⟨0, 0, ⟨#[]⟩⟩⟩ []
def ltZ (k : Int) (p : ByteArray) : Lt := ⟨k, p, [], 0, exZ, exZ⟩
def nilV : Value := .slice none 0 0
theorem exZ_re (w : World) : RE 1 w (exZ.cs (.slice none 0 0)) exZ := ⟨_, rfl, by decide, ⟨by decide, by decide, by decide, by decide⟩, SlRep.nil⟩
theorem ltZ_c (w : World) (k : Int) (p : ByteArray) (hk : (Lit.int .i8 k).wf = true) (hp : p.size ≤ 140737488351232) : LtC w (ltZ k p) (.slice none 0 0) (.slice none 0 0) (.slice none 0 0) :=
  ⟨SlRep.nil, ⟨1, exZ_re w⟩, ⟨1, exZ_re w⟩, hk, (by show (Lit.int .i8 0).wf = true; decide), hp⟩
abbrev ltZs (k : Int) (p : ByteArray) : List Value := [.int .i8 k, .string p, .slice none 0 0, .int .i8 0, .int .i8 0, .string ⟨#[]⟩, .int .i8 0, .int .i64 0, .string ⟨#[]⟩, .slice none 0 0, .int .i8 0, .string ⟨#[]⟩, .int .i8 0, .int .i64 0, .string ⟨#[]⟩, .slice none 0 0]
set_option maxHeartbeats 2000000 in
set_option maxRecDepth 100000 in
theorem lawAtom_any (k : Int) (p : ByteArray) (w : World) :
    Calls Tryz.prog 48 #[.int .i8 k, .string p] w fun e w' => e = .returned (.agg (ltZs k p).toArray) ∧ Fut w w' := by
  go_enter Tryz.func48, Tryz.ntmps48
  go_wp2
  have hb := heap_alloc_new w (.cells (ltZs k p).toArray 70)
  refine bodyPost_ret (v := .agg (ltZs k p).toArray) (results_cell_row rfl _ _ w.heap.size _ (ltZs k p).toArray _ _ rfl hb Tryz.underlying70 rfl infoLtS) rfl ?_
  exact ⟨rfl, Fut.alloc _ _⟩
end Go.Proofs.YtackadhamghblaaGreat
/- pedigreelaw09.other. -/
namespace Go.Proofs.YtackadhamghblaaGreat
open Go.RowKit Go.WideMaps
set_option linter.unusedSimpArgs false
set_option linter.unusedVariables false

def xB : ByteArray := ⟨#[120]⟩
def yB : ByteArray := ⟨#[121]⟩
def zB : ByteArray := ⟨#[122]⟩
def ruZ : Ru := ⟨zB, [], [ltZ 2 yB, ltZ 1 zB]⟩
def ruY : Ru := ⟨yB, [], [ltZ 1 xB]⟩
def otherP : List Ru := [ruZ, ruY]
theorem set_foldO : ∀ (l : List Value) (off k : Nat) (arr : Array Value), off + k + l.length ≤ arr.size → (l.zipIdx k).foldl (fun cs (x : Value × Nat) => cs.setIfInBounds (off + x.2) x.1) arr = (arr.toList.take (off + k) ++ l ++ arr.toList.drop (off + k + l.length)).toArray
  | [], off, k, arr, h => by simp
  | v :: r, off, k, arr, h => by
    rw [List.length_cons] at h
    rw [List.zipIdx_cons, List.foldl_cons, set_foldO r off (k + 1) _ (by simp; omega)]
    congr 1
    have hk : off + k < arr.toList.length := by simp; omega
    rw [Array.toList_setIfInBounds, List.take_set, List.drop_set]
    have hz0 : off + (k + 1) - (off + k + 1) = 0 := by omega
    simp only [show ¬ off + (k + 1) + r.length ≤ off + k by omega, if_false]
    rw [List.set_eq_take_append_cons_drop]
    simp only [List.length_take, show off + k < min (off + (k + 1)) arr.toList.length by omega, if_true]
    rw [List.take_take, show min (off + k) (off + (k + 1)) = off + k by omega, List.drop_take]
    simp [List.length_cons, hz0, show off + (k + 1) + r.length = off + k + (r.length + 1) by omega]
/-- A slice of two structs. -/
theorem run_slice2 {P : Program} {t e : TypeId} {c1 c2 : List Value} {z : Value} {n m : Nat} (ht : P.underlying t = some (.slice e)) (hi : (P.info? e).map (fun i => (i.zero, i.size, i.bytes)) = some (some z, n, m)) (h1 : c1.length = n) (h2 : c2.length = n) (hp : 0 < n) (hsm : n ≤ 2 ^ 20) (w : World) :
    (Instr.buildSlice t 2 #[(0, .agg c1.toArray), (1, .agg c2.toArray)]).run P w = .ok (.slice (some ⟨w.heap.size, 0, none⟩) 2 2) (w.alloc (.cells (c1 ++ c2).toArray e)) := by
  obtain ⟨i, hq, hz, hs, _⟩ := info_parts hi
  refine run_buildSlice w t e 2 _ _ i z ht hq hz (by rw [hs]; omega) (by rw [hs]; omega) ?_
  rw [hs]
  have e1 : ∀ c : List Value, (Value.agg c.toArray).cells = c.toArray := fun c => rfl
  obtain ⟨arr, harr⟩ : ∃ a, ((Array.range (2 * n)).map (z.cells[· % z.cells.size]!)) = a := ⟨_, rfl⟩
  have hsz : arr.size = 2 * n := by rw [← harr]; simp
  rw [harr]
  have f1 := set_foldO c1 0 0 arr (by omega)
  have f2 : ∀ a2 : Array Value, a2.size = 2 * n → (c2.zipIdx 0).foldl (fun cs (x : Value × Nat) => cs.setIfInBounds (n + x.2) x.1) a2 = (a2.toList.take n ++ c2).toArray := fun a2 ha => by
    rw [set_foldO c2 n 0 a2 (by omega)]
    have : a2.toList.drop (n + 0 + c2.length) = [] := List.drop_eq_nil_of_le (by simp; omega)
    rw [this, List.append_nil, Nat.add_zero]
  unfold Instr.fill Instr.fill Instr.fill
  simp only [Nat.zero_mul, Nat.one_mul, e1]
  rw [if_neg (by simp; omega)]
  rw [← Array.foldl_toList, Array.toList_zipIdx]
  simp only [List.toList_toArray]
  rw [f1, if_neg (by simp; omega), ← Array.foldl_toList, Array.toList_zipIdx]
  simp only [List.toList_toArray]
  rw [f2 _ (by simp; omega)]
  simp
  rw [← h1, List.take_left]
theorem wpList_slice2 {P : Program} {ops : Array Oper} {rest : List Oper} {o : Oper} {a : Act} {w : World} {Q : Exit → Act → World → Prop} {t e : TypeId} {c1 c2 : List Value} {z : Value} {n m : Nat} (hg : o.guard = none) (x y : Operand) (ho : o.op = .buildSlice t 2 #[(0, x), (1, y)]) (hx : a.eval x = .agg c1.toArray) (hy : a.eval y = .agg c2.toArray)
    (ht : P.underlying t = some (.slice e)) (hi : (P.info? e).map (fun i => (i.zero, i.size, i.bytes)) = some (some z, n, m)) (h1 : c1.length = n) (h2 : c2.length = n) (hp : 0 < n) (hsm : n ≤ 2 ^ 20)
    (h : wpList P ops Q rest (a.put o.dst (.slice (some ⟨w.heap.size, 0, none⟩) 2 2)) (w.alloc (.cells (c1 ++ c2).toArray e))) : wpList P ops Q (o :: rest) a w := by
  refine wpList_of_run (wanted_none hg _) (v := .slice (some ⟨w.heap.size, 0, none⟩) 2 2) (w' := w.alloc (.cells (c1 ++ c2).toArray e)) ?_ h
  unfold execOp
  have h1' : (#[((0 : Nat), x), ((1 : Nat), y)].map fun (i, x) => (i, a.eval x)) = #[(0, .agg c1.toArray), (1, .agg c2.toArray)] := by simp [hx, hy]
  simp only [ho, h1', Sem.run_bind, Sem.run_pure, Result.andThen_ok, run_slice2 ht hi h1 h2 hp hsm]
/-- A list that lies in a block, from its first cell on. -/
theorem slBlk {α : Type} {sz b : Nat} {R : World → List Value → α → Prop} {W : World} {t : TypeId} {css : List (List Value)} {xs : List α} (h : W.heap[b]? = some (.cells css.flatten.toArray t (0, 0))) (hl : css.length = xs.length) (hs : ∀ (i : Nat) (cs : List Value), css[i]? = some cs → cs.length = sz) (hR : ∀ (i : Nat) (cs : List Value) (x : α), css[i]? = some cs → xs[i]? = some x → R W cs x) :
    SlRep sz xs.length R W (.slice (some ⟨b, 0, none⟩) xs.length xs.length) xs :=
  ⟨_, _, rfl, Nat.le_refl _, Nat.le_refl _, fun i x hx => by
    have hi : i < css.length := by have := (List.getElem?_eq_some_iff.1 hx).1; omega
    refine ⟨b, 0, css[i], rfl, hs i _ (List.getElem?_eq_getElem hi), fun j c hj => ?_, hR i _ x (List.getElem?_eq_getElem hi) hx⟩
    have := flatten_at hs i j _ c (List.getElem?_eq_getElem hi) hj
    rw [Nat.zero_add]
    exact cell_at h _ c (by simpa using this)⟩
theorem ltZ_rlt (W : World) (k : Int) (p : ByteArray) (hk : (Lit.int .i8 k).wf = true) (hp : p.size ≤ 140737488351232) : RLt W (ltZs k p) (ltZ k p) := (ltZ_c W k p hk hp).rlt
theorem lits2 {W : World} {b : Nat} {t : TypeId} {k1 k2 : Int} {p1 p2 : ByteArray} (h : W.heap[b]? = some (.cells (ltZs k1 p1 ++ ltZs k2 p2).toArray t (0, 0))) (a1 : (Lit.int .i8 k1).wf = true) (a2 : (Lit.int .i8 k2).wf = true) (b1 : p1.size ≤ 140737488351232) (b2 : p2.size ≤ 140737488351232) :
    SlRep 16 651562446089 RLt W (.slice (some ⟨b, 0, none⟩) 2 2) [ltZ k1 p1, ltZ k2 p2] :=
  (slBlk (css := [ltZs k1 p1, ltZs k2 p2]) (xs := [ltZ k1 p1, ltZ k2 p2]) (by simpa using h) rfl (fun i cs hi => by
    match i, hi with
    | 0, hi => injection hi with hi; subst hi; rfl
    | 1, hi => injection hi with hi; subst hi; rfl) (fun i cs x hi hx => by
    match i, hi, hx with
    | 0, hi, hx => injection hi with hi; injection hx with hx; subst hi; subst hx; exact ltZ_rlt W _ _ a1 b1
    | 1, hi, hx => injection hi with hi; injection hx with hx; subst hi; subst hx; exact ltZ_rlt W _ _ a2 b2)).more (by show (2 : Nat) ≤ _; decide)
theorem lits1 {W : World} {b : Nat} {t : TypeId} {k1 : Int} {p1 : ByteArray} (h : W.heap[b]? = some (.cells (ltZs k1 p1).toArray t (0, 0))) (a1 : (Lit.int .i8 k1).wf = true) (b1 : p1.size ≤ 140737488351232) :
    SlRep 16 651562446089 RLt W (.slice (some ⟨b, 0, none⟩) 1 1) [ltZ k1 p1] :=
  (slBlk (css := [ltZs k1 p1]) (xs := [ltZ k1 p1]) (by simpa using h) rfl (fun i cs hi => by
    match i, hi with
    | 0, hi => injection hi with hi; subst hi; rfl) (fun i cs x hi hx => by
    match i, hi, hx with
    | 0, hi, hx => injection hi with hi; injection hx with hx; subst hi; subst hx; exact ltZ_rlt W _ _ a1 b1)).more (by show (1 : Nat) ≤ _; decide)
theorem rules2 {W : World} {b g1 g2 : Nat} {t : TypeId} (h : W.heap[b]? = some (.cells #[.string zB, .slice none 0 0, .slice (some ⟨g1, 0, none⟩) 2 2, .string yB, .slice none 0 0, .slice (some ⟨g2, 0, none⟩) 1 1] t (0, 0))) (h1 : SlRep 16 651562446089 RLt W (.slice (some ⟨g1, 0, none⟩) 2 2) ruZ.b) (h2 : SlRep 16 651562446089 RLt W (.slice (some ⟨g2, 0, none⟩) 1 1) ruY.b) :
    SlRep 3 2199023255552 RRu W (.slice (some ⟨b, 0, none⟩) 2 2) otherP :=
  (slBlk (css := [[.string zB, .slice none 0 0, .slice (some ⟨g1, 0, none⟩) 2 2], [.string yB, .slice none 0 0, .slice (some ⟨g2, 0, none⟩) 1 1]]) (xs := otherP) (by simpa using h) rfl (fun i cs hi => by
    match i, hi with
    | 0, hi => injection hi with hi; subst hi; rfl
    | 1, hi => injection hi with hi; subst hi; rfl) (fun i cs x hi hx => by
    match i, hi, hx with
    | 0, hi, hx => injection hi with hi; injection hx with hx; subst hi; subst hx; exact ⟨_, _, rfl, by decide, SlRep.nil, h1⟩
    | 1, hi, hx => injection hi with hi; injection hx with hx; subst hi; subst hx; exact ⟨_, _, rfl, by decide, SlRep.nil, h2⟩)).more (by decide)
theorem infoPg : (Tryz.prog.info? 25).map (·.size) = some 1 := by kernel_rfl
set_option maxHeartbeats 4000000 in
set_option maxRecDepth 100000 in
theorem other_own (w : World) : Calls Tryz.prog 27 #[] w fun e w' => ∃ A, e = .returned (.agg #[.slice A 2 2]) ∧ (∀ W', Only (fun k => k < w.heap.size) w' W' → SlRep 3 2199023255552 RRu W' (.slice A 2 2) otherP) ∧ Fut w w' ∧ ∀ a, A = some a → w.heap.size ≤ a.block := by
  have hc := fun (k : Int) (p : ByteArray) W => lawAtom_any k p W
  go_enter Tryz.func27, Tryz.ntmps27
  go_wp2_with fail
  refine (hc 2 yB _).mono ?_
  rintro e w1 ⟨rfl, f1⟩
  go_wp2_with fail
  refine (hc 1 zB _).mono ?_
  rintro e w2 ⟨rfl, f2⟩
  go_wp2_with (first | (refine wpList_slice2 (c1 := ltZs 2 yB) (c2 := ltZs 1 zB) rfl _ _ rfl rfl rfl Tryz.underlying50 infoLtF rfl rfl (by decide) (by decide) ?_))
  refine (hc 1 xB _).mono ?_
  rintro e w3 ⟨rfl, f3⟩
  have f12 := Fut.alloc w2 (.cells (ltZs 2 yB ++ ltZs 1 zB).toArray 70)
  have bl := f3.block (heap_alloc_new w2 (.cells (ltZs 2 yB ++ ltZs 1 zB).toArray 70))
  have f34 := Fut.alloc w3 (.cells (ltZs 1 xB).toArray 70)
  have f45 := Fut.alloc (w3.alloc (.cells (ltZs 1 xB).toArray 70)) (.cells #[.string ⟨#[122]⟩, .slice none 0 0, .slice (some ⟨w2.heap.size, 0, none⟩) 2 2, .string ⟨#[121]⟩, .slice none 0 0, .slice (some ⟨w3.heap.size, 0, none⟩) 1 1] 52)
  have b0 := f45.block (f34.block (f3.block (f12.block (f2.block (f1.block (heap_alloc_new w (.cells #[.slice none 0 0] 25)))))))
  have b1 := f45.block (f34.block bl)
  have b2 := f45.block (heap_alloc_new w3 (.cells (ltZs 1 xB).toArray 70))
  have b3 := heap_alloc_new (w3.alloc (.cells (ltZs 1 xB).toArray 70)) (.cells #[.string ⟨#[122]⟩, .slice none 0 0, .slice (some ⟨w2.heap.size, 0, none⟩) 2 2, .string ⟨#[121]⟩, .slice none 0 0, .slice (some ⟨w3.heap.size, 0, none⟩) 1 1] 52)
  have z4 : (w3.alloc (.cells (ltZs 1 xB).toArray 70)).heap.size = w3.heap.size + 1 := by simp
  rw [z4] at b3
  have k0 := cell_at b0 0 (.slice none 0 0) rfl
  have k1 := free_at b0 0
  have F0 := Lib.hid (((((Fut.alloc w (.cells #[.slice none 0 0] 25)).trans f1).trans f2).trans f12).trans ((f3.trans f34).trans f45))
  have n2 : w.heap.size < w2.heap.size := by
    have h9 := (f1.trans f2).size
    rw [show (w.alloc (.cells #[.slice none 0 0] 25)).heap.size = w.heap.size + 1 from by simp] at h9
    omega
  have n3 : w.heap.size < w3.heap.size := by
    have h9 := (f12.trans f3).size
    omega
  have HB := Lib.hid (And.intro b0 (And.intro b1 (And.intro b2 b3)))
  have HN := Lib.hid (And.intro n2 n3)
  clear bl b0 b1 b2 b3 f12 f34 f45 f1 f2 f3 z4 n2 n3
  go_wp2_with (first | (refine wpList_slice1 (cs := ltZs 1 xB) rfl _ rfl rfl Tryz.underlying50 infoLtF rfl rfl (by decide) (by decide) ?_))
  obtain ⟨b0, b1, b2, b3⟩ := HB.out
  obtain ⟨n2, n3⟩ := HN.out
  obtain ⟨w5, hw5⟩ : ∃ W, ((w3.alloc (.cells (ltZs 1 xB).toArray 70)).alloc (.cells #[.string ⟨#[122]⟩, .slice none 0 0, .slice (some ⟨w2.heap.size, 0, none⟩) 2 2, .string ⟨#[121]⟩, .slice none 0 0, .slice (some ⟨w3.heap.size, 0, none⟩) 1 1] 52)).setCell ⟨w.heap.size, 0, none⟩ (.slice (some ⟨w3.heap.size + 1, 0, none⟩) 2 2) = W := ⟨_, rfl⟩
  have O2 : Only (fun k => k = w.heap.size) ((w3.alloc (.cells (ltZs 1 xB).toArray 70)).alloc (.cells #[.string ⟨#[122]⟩, .slice none 0 0, .slice (some ⟨w2.heap.size, 0, none⟩) 2 2, .string ⟨#[121]⟩, .slice none 0 0, .slice (some ⟨w3.heap.size, 0, none⟩) 1 1] 52)) w5 := by rw [← hw5]; exact Only.set _ _ rfl
  have hb := set_block (j := 0) (v := .slice (some ⟨w3.heap.size + 1, 0, none⟩) 2 2) b0
  rw [hw5] at hb
  rw [hw5]
  have LR := fun W' (hO : Only (fun k => k < w.heap.size) w5 W') => rules2 (hO.keeps (O2.keeps b3 (by omega)) (by omega)) (lits2 (hO.keeps (O2.keeps b1 (by omega)) (by omega)) (by decide) (by decide) (by decide) (by decide)) (lits1 (hO.keeps (O2.keeps b2 (by omega)) (by omega)) (by decide) (by decide))
  have OW : Only (fun k => w.heap.size ≤ k) w w5 := (Only.fut F0.out).trans (O2.mono fun k _ hk => by omega)
  refine bodyPost_ret (v := .agg #[.slice (some ⟨w3.heap.size + 1, 0, none⟩) 2 2]) (results_cell_row rfl _ _ w.heap.size _ #[.slice (some ⟨w3.heap.size + 1, 0, none⟩) 2 2] _ _ rfl hb Tryz.underlying25 rfl infoPg) rfl ?_
  exact ⟨_, rfl, LR, OW.toFut (fun k hk => hk), fun a ha => by injection ha with ha; subst ha; show w.heap.size ≤ w3.heap.size + 1; omega⟩
theorem other_any (w : World) : Calls Tryz.prog 27 #[] w fun e w' => ∃ A, e = .returned (.agg #[.slice A 2 2]) ∧ SlRep 3 2199023255552 RRu w' (.slice A 2 2) otherP ∧ Fut w w' := by
  refine (other_own w).mono ?_
  rintro e w' ⟨A, h1, h2, h3, _⟩
  exact ⟨A, h1, h2 w' (Only.refl _), h3⟩
end Go.Proofs.YtackadhamghblaaGreat
/- What the example program comes to, plainly. -/
namespace Go.Proofs.YtackadhamghblaaGreat
open Go.RowKit Go.WideMaps Go.Maps
set_option linter.unusedSimpArgs false
set_option linter.unusedVariables false

def liveT : TS := ⟨[(xB, 1), (yB, 2), (zB, 3)], [], [(xB, 0), (yB, 1), (zB, 2)], [[xB], [yB], [zB]]⟩
theorem live_small : Small otherP := by unfold Small; decide +kernel
theorem live_smallY : Small [ruY] := by unfold Small; decide +kernel
theorem live_len : (drawP otherP).length ≤ 100000000 := by decide +kernel
theorem live_tarj : tarjT (drawP otherP) 10 = some liveT := by kernel_rfl
theorem live_blame : blameE liveT.inn (edgesP otherP) = none := by kernel_rfl
theorem live_raise : raiseR (edgesP otherP) 5 [] = some [(zB, 1)] := by kernel_rfl
theorem live_levels : ((drawP otherP).sorted.map fun s => (s, lk0 [(zB, 1)] s)) = [(xB, 0), (yB, 0), (zB, 1)] := by kernel_rfl
theorem live_parts : partsP (drawP otherP) liveT = some [[xB], [yB], [zB]] := by kernel_rfl
theorem live_sound : SoundT liveT := ⟨by decide +kernel, by decide +kernel, by decide⟩
theorem live_pz : ∀ p ∈ liveT.out, ∀ x ∈ p, x.size ≤ 140737488351232 := by decide +kernel
theorem live_plain : plainP [ruY] = true := by kernel_rfl
theorem live_one : oneP otherP = false := by kernel_rfl
end Go.Proofs.YtackadhamghblaaGreat
/- pedigreelaw09.lives. -/
namespace Go.Proofs.YtackadhamghblaaGreat
open Go.RowKit Go.WideMaps Go.Maps
set_option linter.unusedSimpArgs false
set_option linter.unusedVariables false

theorem lv_at {M : Nat} {w : World} {A : Option Addr} {n cap : Nat} {xs : List (ByteArray × Nat)} (h : SlRep 2 M RLv w (.slice A n cap) xs) {k : Nat} (hk : k < xs.length) :
    ∃ b off, A = some ⟨b, off, none⟩ ∧ w.cell? ⟨b, off + k * 2, none⟩ = some (.string (xs[k]).1) ∧ w.cell? ⟨b, off + k * 2 + 1, none⟩ = some (.int .i32 ((xs[k]).2 : Nat)) := by
  obtain ⟨A1, cap1, hv, _, _, h3⟩ := h
  obtain ⟨b, off, cs, hA, hl, hc, hr⟩ := h3 k _ (List.getElem?_eq_getElem hk)
  injection hv with hv _ _
  obtain rfl : cs = _ := hr
  exact ⟨b, off, hv.trans hA, hc 0 _ rfl, hc 1 _ rfl⟩
theorem sl_tail {α : Type} {sz M : Nat} {R : World → List Value → α → Prop} {w : World} {A : Option Addr} {n cap : Nat} {x : α} {xs : List α} (h : SlRep sz M R w (.slice A n cap) (x :: xs)) :
    ∃ b off, A = some ⟨b, off, none⟩ ∧ n = xs.length + 1 ∧ SlRep sz M R w (.slice (some ⟨b, off + sz, none⟩) xs.length (cap - 1)) xs := by
  obtain ⟨A1, cap1, hv, h1, h2, h3⟩ := h
  obtain ⟨b, off, cs, hA, hl, hc, hr⟩ := h3 0 x rfl
  injection hv with e1 e2 e3
  subst e3
  rw [List.length_cons] at e2 h1
  refine ⟨b, off, e1.trans hA, e2, _, _, rfl, by omega, by omega, fun i y hy => ?_⟩
  obtain ⟨b', off', cs', hA', hl', hc', hr'⟩ := h3 (i + 1) y hy
  rw [hA] at hA'
  injection hA' with hA'
  injection hA' with e4 e5 _
  subst e4; subst e5
  refine ⟨b, off + sz, cs', rfl, hl', fun j c hj => ?_, hr'⟩
  rw [← hc' j c hj, Nat.add_mul, Nat.one_mul]
  congr 2
  omega
theorem field_prog (A : Option Addr) (n c : Nat) (W : World) : (Instr.field 25 (.agg #[.slice A n c]) 0).run Tryz.prog W = .ok (.slice A n c) W := by kernel_rfl
set_option maxHeartbeats 4000000 in
set_option maxRecDepth 100000 in
theorem lives9_any (w : World) : Calls Tryz.prog 10 #[] w fun e w' => e = .returned (.bool true) ∧ Fut w w' := by
  have HOt := Lib.hid other_any
  have HL := Lib.hid (fun A W (h : SlRep 3 2199023255552 RRu W (.slice A 2 2) otherP) => levelsG_any A 2 otherP W h (by decide) live_small 10 liveT live_tarj live_len live_blame _ 5 live_raise)
  have HP := Lib.hid (fun A W (h : SlRep 3 2199023255552 RRu W (.slice A 2 2) otherP) => partsR_any A 2 otherP W h (by decide) live_small 10 liveT live_tarj live_len live_sound live_pz _ live_parts)
  have HPl := Lib.hid (fun A c W (h : SlRep 3 2199023255552 RRu W (.slice A 1 c) [ruY]) => plain_any A c [ruY] W h (by decide) live_smallY)
  have HOn := Lib.hid (fun A W (h : SlRep 3 2199023255552 RRu W (.slice A 2 2) otherP) => one_any A 2 otherP W h (by decide) live_small)
  go_enter Tryz.func10, Tryz.ntmps10
  go_wp2_with fail
  refine (HOt.out _).mono ?_
  rintro e w1 ⟨A1, rfl, r1, f1⟩
  have R1 := Lib.hid r1
  have F1 := Lib.hid f1
  clear r1 f1
  go_wp2_with fail
  refine (HL.out A1 w1 R1.out).mono ?_
  rintro e w2 ⟨lv, rfl, hlv, f2⟩
  rw [live_levels] at hlv
  obtain ⟨Al, cl, rfl, hl1, hl2⟩ := hlv.rep.form
  have HLv := Lib.hid hlv
  have F2 := Lib.hid (F1.out.trans f2)
  clear hlv f2 R1 hl1 hl2
  go_wp2_with fail
  refine (HOt.out _).mono ?_
  rintro e w3 ⟨A3, rfl, r3, f3⟩
  have R3 := Lib.hid r3
  have HL3 := Lib.hid (HLv.out.fut RLv.stays f3)
  have F3 := Lib.hid (F2.out.trans f3)
  clear r3 f3
  go_wp2_with fail
  refine (HP.out A3 w3 R3.out).mono ?_
  rintro e w4 ⟨pv, rfl, hpv, f4⟩
  obtain ⟨Ap, cp, rfl, hp1, hp2⟩ := hpv.rep.form
  have F4 := Lib.hid (F3.out.trans f4)
  have hL4 := (HL3.out.fut RLv.stays f4).rep
  obtain ⟨bl, ol, rfl, c0, c1⟩ := lv_at hL4 (k := 0) (by decide)
  obtain ⟨bl2, ol2, hA2, c2, c3⟩ := lv_at hL4 (k := 2) (by decide)
  injection hA2 with hA2
  injection hA2 with e3 e4 _
  subst e3; subst e4
  have d0 : w4.cell? ⟨bl, ol, none⟩ = some (.string ⟨#[120]⟩) := c0
  have d1 : w4.cell? ⟨bl, ol + 1, none⟩ = some (.int .i32 0) := c1
  have d2 : w4.cell? ⟨bl, ol + 4, none⟩ = some (.string ⟨#[122]⟩) := c2
  have d3 : w4.cell? ⟨bl, ol + 5, none⟩ = some (.int .i32 1) := c3
  obtain ⟨bp, op, v0, rfl, z0, hv0⟩ := ls_at hpv.rep (k := 0) (by decide)
  obtain ⟨A0, cc0, rfl, _, _⟩ := hv0.rep.form
  obtain ⟨b0, o0, rfl, z1⟩ := nm_at hv0.rep (k := 0) (by decide)
  have d4 : w4.cell? ⟨bp, op, none⟩ = some (.slice (some ⟨b0, o0, none⟩) 1 cc0) := z0
  have d5 : w4.cell? ⟨b0, o0, none⟩ = some (.string ⟨#[120]⟩) := z1
  clear c0 c1 c2 c3 z0 z1 hv0 hpv hL4 hp1 hp2 f4 HL3 HLv R3 HL HP
  simp only [List.length_cons, List.length_nil, Nat.zero_add, Nat.reduceAdd]
  go_wp2_with fail
  refine (HOt.out _).mono ?_
  rintro e w5 ⟨A5, rfl, r5, f5⟩
  obtain ⟨b5, o5, rfl, _, r6⟩ := sl_tail r5
  have F5 := Lib.hid (F4.out.trans f5)
  have hfp := field_prog
  have R6 := Lib.hid r6
  clear r5 r6 f5 d0 d1 d2 d3 d4 d5
  go_wp2_with fail
  refine (HPl.out _ _ _ R6.out).mono ?_
  rintro e w6 ⟨rfl, f6⟩
  rw [live_plain]
  have F6 := Lib.hid (F5.out.trans f6)
  clear f6
  go_wp2_with fail
  refine (HOt.out _).mono ?_
  rintro e w7 ⟨A7, rfl, r7, f7⟩
  have F7 := Lib.hid (F6.out.trans f7)
  have R7 := Lib.hid r7
  clear r7 f7
  go_wp2_with fail
  refine (HOn.out _ _ R7.out).mono ?_
  rintro e w8 ⟨rfl, f8⟩
  rw [live_one]
  have F8 := F7.out.trans f8
  clear f8
  go_wp2
  go_ret
  exact ⟨rfl, F8⟩
end Go.Proofs.YtackadhamghblaaGreat
/- What is worked out ahead, and the rest: the plain law of Split. No program. -/
namespace Go.Proofs.YtackadhamghblaaGreat
open Go.RowKit
set_option linter.unusedSimpArgs false
set_option linter.unusedVariables false

/-- What a rule puts ahead. -/
def Ru.seeds (r : Ru) : List ByteArray := (if r.agg = true ∨ r.makes = true then [r.p] else []) ++ (r.b.filter fun l => decide (l.k = 2)).map (·.p)
def seedsP (rs : List Ru) : List ByteArray := rs.flatMap Ru.seeds
/-- A list of the names that are ahead. -/
def AheadL (rs : List Ru) (L : List ByteArray) : Prop := ∀ x, x ∈ L ↔ ∃ f ∈ seedsP rs, Rch (drawP rs) f x
def aheadP (rs : List Ru) (L : List ByteArray) : List Ru := rs.filter fun r => decide (r.p ∈ L)
def restP (rs : List Ru) (L : List ByteArray) : List Ru := rs.filter fun r => !decide (r.p ∈ L)
theorem tri_of {rs : List Ru} {e : Ed} (he : e ∈ edgesP rs) : ∃ r ∈ rs, ∃ l ∈ r.b, l.isA = true ∧ e.f = r.p ∧ e.t = l.p ∧ e.k = if l.k = 2 then 2 else r.kind := by
  obtain ⟨r, hr, hx⟩ := edge_tri.1 ⟨e, he, rfl⟩
  obtain ⟨l, hl, hq⟩ := List.mem_map.1 hx
  obtain ⟨h1, h2⟩ := List.mem_filter.1 hl
  unfold Ed.tri at hq
  injection hq with q1 q2
  injection q2 with q2 q3
  exact ⟨r, hr, l, h1, h2, q1.symm, q2.symm, q3.symm⟩
theorem tri_to {rs : List Ru} {r : Ru} (hr : r ∈ rs) {l : Lt} (hl : l ∈ r.b) (ha : l.isA = true) : ∃ e ∈ edgesP rs, e.f = r.p ∧ e.t = l.p ∧ e.k = if l.k = 2 then 2 else r.kind := by
  obtain ⟨e, he, hq⟩ := edge_tri.2 ⟨r, hr, List.mem_map.2 ⟨l, List.mem_filter.2 ⟨hl, ha⟩, rfl⟩⟩
  unfold Ed.tri at hq
  injection hq with q1 q2
  injection q2 with q2 q3
  exact ⟨e, he, q1, q2, q3⟩
section
variable {rs : List Ru} {L : List ByteArray}
theorem AheadL.closed (h : AheadL rs L) {e : Ed} (he : e ∈ edgesP rs) (hf : e.f ∈ L) : e.t ∈ L := by
  obtain ⟨f, h1, h2⟩ := (h _).1 hf
  exact (h _).2 ⟨f, h1, h2.trans (.one (edge_suc.2 ⟨e, he, rfl, rfl⟩))⟩
theorem AheadL.seed (h : AheadL rs L) {x : ByteArray} (hx : x ∈ seedsP rs) : x ∈ L := (h x).2 ⟨x, hx, .refl x⟩
theorem AheadL.rest (h : AheadL rs L) {r : Ru} (hr : r ∈ restP rs L) : r ∈ rs ∧ r.p ∉ L ∧ r.agg = false ∧ r.makes = false ∧ ∀ l ∈ r.b, l.k = 2 → l.p ∈ L := by
  obtain ⟨h1, h2⟩ := List.mem_filter.1 hr
  have h3 : r.p ∉ L := by simpa using h2
  have hs : ∀ x ∈ r.seeds, x ∈ L := fun x hx => h.seed (List.mem_flatMap.2 ⟨r, h1, hx⟩)
  have h4 : ¬ (r.agg = true ∨ r.makes = true) := fun h9 => h3 (hs _ (by unfold Ru.seeds; rw [if_pos h9]; simp))
  refine ⟨h1, h3, by cases h9 : r.agg <;> simp_all, by cases h9 : r.makes <;> simp_all, fun l hl hk => hs _ ?_⟩
  unfold Ru.seeds
  exact List.mem_append_right _ (List.mem_map.2 ⟨l, List.mem_filter.2 ⟨hl, decide_eq_true hk⟩, rfl⟩)
/-- The rest is plain. -/
theorem AheadL.plain (h : AheadL rs L) : plainP (restP rs L) = true := by
  have h1 : (restP rs L).any Ru.makes = false := List.any_eq_false.2 fun r hr => by rw [(h.rest hr).2.2.2.1]; decide
  have h2 : (restP rs L).any Ru.agg = false := List.any_eq_false.2 fun r hr => by rw [(h.rest hr).2.2.1]; decide
  have h3 : ((edgesP (restP rs L)).any fun e => e.strictIn (headsP (restP rs L))) = false := List.any_eq_false.2 fun e he hst => by
    unfold Ed.strictIn at hst
    rw [Bool.and_eq_true] at hst
    obtain ⟨g1, g2⟩ := hst
    obtain ⟨r, hr, l, hl, ha, e1, e2, e3⟩ := tri_of he
    obtain ⟨c1, c2, c3, c4, c5⟩ := h.rest hr
    have hkd : r.kind = 1 := by unfold Ru.kind; rw [c3, c4]; rfl
    have hk2 : l.k = 2 := by
      refine Decidable.byContradiction fun hne => ?_
      rw [if_neg hne, hkd] at e3
      rw [e3] at g2
      exact absurd g2 (by decide)
    have ht := c5 l hl hk2
    have hh : e.t ∈ headsP (restP rs L) := of_decide_eq_true g1
    unfold headsP at hh
    rcases (foldF_mem _ _ _).1 hh with q | q
    · cases q
    · obtain ⟨r2, hr2, q2⟩ := List.mem_map.1 q
      rw [e2] at q2
      exact (h.rest hr2).2.1 (q2 ▸ ht)
  unfold plainP oneP
  rw [h1, h2, h3]
  rfl
/-- No rule of the first leans on one of the rest. -/
theorem AheadL.edge (h : AheadL rs L) {e : Ed} (he : e ∈ edgesP (aheadP rs L)) : e.f ∈ L ∧ e.t ∈ L := by
  obtain ⟨r, hr, l, hl, ha, e1, e2, e3⟩ := tri_of he
  obtain ⟨h1, h2⟩ := List.mem_filter.1 hr
  obtain ⟨e', he', q1, q2, _⟩ := tri_to h1 hl ha
  have hf : r.p ∈ L := of_decide_eq_true h2
  refine ⟨e1 ▸ hf, ?_⟩
  have := h.closed he' (by rw [q1]; exact hf)
  rw [q2] at this
  rw [e2]; exact this
theorem AheadL.name (h : AheadL rs L) {s : ByteArray} (hs : s ∈ (drawP (aheadP rs L)).names) : s ∈ L := by
  rw [(draw_ok _).nm] at hs
  obtain ⟨r, hr, hx⟩ := List.mem_flatMap.1 hs
  obtain ⟨h1, h2⟩ := List.mem_filter.1 hr
  have hf : r.p ∈ L := of_decide_eq_true h2
  unfold Ru.nN at hx
  rcases List.mem_cons.1 hx with rfl | hx
  · exact hf
  · obtain ⟨l, hl, rfl⟩ := List.mem_map.1 hx
    obtain ⟨l1, l2⟩ := List.mem_filter.1 hl
    obtain ⟨e', he', q1, q2, _⟩ := tri_to h1 l1 l2
    have := h.closed he' (by rw [q1]; exact hf)
    rw [q2] at this
    exact this
/-- An edge of the whole that begins ahead is one of the first. -/
theorem AheadL.back (h : AheadL rs L) {e : Ed} (he : e ∈ edgesP rs) (hf : e.f ∈ L) : ∃ e' ∈ edgesP (aheadP rs L), e'.f = e.f ∧ e'.t = e.t ∧ e'.k = e.k := by
  obtain ⟨r, hr, l, hl, ha, e1, e2, e3⟩ := tri_of he
  obtain ⟨e', he', q1, q2, q3⟩ := tri_to (List.mem_filter.2 ⟨hr, decide_eq_true (e1 ▸ hf)⟩ : r ∈ aheadP rs L) hl ha
  exact ⟨e', he', q1.trans e1.symm, q2.trans e2.symm, q3.trans e3.symm⟩
theorem ahead_in {r : Ru} (hr : r ∈ aheadP rs L) : r ∈ rs := (List.mem_filter.1 hr).1
/-- The first program's names have the levels that they have in the whole. -/
theorem AheadL.levels (h : AheadL rs L) {nf nf' : ByteArray → Nat} (h1 : LeastL (edgesP rs) nf) (h2 : LeastL (edgesP (aheadP rs L)) nf') {s : ByteArray} (hs : s ∈ L) : nf s = nf' s := by
  have hle := fun s => h2.2 nf (holds_move (fun r hr => ahead_in hr) h1.1) s
  refine Nat.le_antisymm ?_ (hle s)
  have hv : Holds (edgesP rs) (fun x => if x ∈ L then nf' x else nf x) := fun e he => by
    show (if e.t ∈ L then nf' e.t else nf e.t) + e.up ≤ if e.f ∈ L then nf' e.f else nf e.f
    by_cases hf : e.f ∈ L
    · have ht := h.closed he hf
      rw [if_pos hf, if_pos ht]
      obtain ⟨e', he', q1, q2, q3⟩ := h.back he hf
      have := h2.1 e' he'
      rwa [q1, q2, up_k q3] at this
    · rw [if_neg hf]
      have h3 := h1.1 e he
      split
      · have := hle e.t; omega
      · exact h3
  have := h1.2 _ hv s
  simp only [if_pos hs] at this
  exact this
end
end Go.Proofs.YtackadhamghblaaGreat
