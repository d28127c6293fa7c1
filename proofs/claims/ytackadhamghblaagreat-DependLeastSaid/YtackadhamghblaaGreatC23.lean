/- LeastF, LeastR, ReachP, Reach -/
import Derived.Test.YtackadhamghblaaGreatC22
/- The law's has, level. -/
namespace Go.Proofs.YtackadhamghblaaGreat
open Go.RowKit Go.WideMaps Go.Maps
set_option linter.unusedSimpArgs false
set_option linter.unusedVariables false

set_option maxHeartbeats 1600000 in
set_option maxRecDepth 100000 in
theorem lhas_any {M : Nat} (s : ByteArray) (A : Option Addr) (c : Nat) (L : List ByteArray) (w : World) (h : SlRep 1 M RNm w (.slice A L.length c) L) (hM : M ≤ 9223372036854775807) :
    Calls Tryz.prog 8 #[.slice A L.length c, .string s] w fun e w' => e = .returned (.bool (decide (s ∈ L))) ∧ w' = w := by
  have H := Lib.hid h
  obtain ⟨_, _, hv, hl1, hl2⟩ := h.form
  have hxl : L.length ≤ 9223372036854775807 := by omega
  obtain ⟨b, hb⟩ : ∃ b, decide (s ∈ L) = b := ⟨_, rfl⟩
  rw [hb]
  replace hb := Lib.hid hb
  clear h hv hl1 hl2
  go_enter Tryz.func8, Tryz.ntmps8
  go_wp2_with fail
  go_loopw [5] (fun i wr => ∃ k : Nat, k ≤ L.length ∧ i = .int .i64 k ∧ Hid (wr = w) ∧ Hid (∀ x ∈ L.take k, x ≠ s)) (fun i _ => L.length - (intOf i).toNat)
  case atStart => exact ⟨0, Nat.zero_le _, rfl, Lib.hid rfl, Lib.hid (fun x hx => by simp at hx)⟩
  case round =>
    obtain ⟨k, hk, rfl, hW, hI⟩ := hrel
    obtain rfl := hW.out
    by_cases hlt : k < L.length
    · have hltI : (k : Int) < L.length := by omega
      have e0 : (0 : Int) ≤ k ∧ (k : Int) < L.length := by omega
      obtain ⟨b', off, rfl, u0⟩ := nm_at H.out hlt
      have hnx := Lib.hid (List.take_succ_eq_append_getElem hlt)
      have hmem := Lib.hid (List.getElem_mem hlt)
      generalize L[k] = z at *
      by_cases hz : z = s
      · obtain rfl : b = true := (by rw [← hb.out]; exact decide_eq_true (hz ▸ hmem.out))
        subst hz
        go_wp2
        go_ret
        exact ⟨rfl, rfl⟩
      · have hI2 : Hid (∀ x ∈ L.take (k + 1), x ≠ s) := Lib.hid fun x hx => by
          rw [hnx.out, List.mem_append] at hx
          rcases hx with hx | hx
          · exact hI.out x hx
          · rw [List.mem_singleton] at hx; subst hx; exact hz
        have hzb : (z.toList == s.toList) = false := (by
          rw [beq_eq_false_iff_ne]
          intro h
          rw [ByteArray.toList_eq, ByteArray.toList_eq] at h
          exact hz (ByteArray.ext (Array.toList_inj.1 (by simpa using h))))
        go_wp2
        go_roundw
        case rel => exact ⟨k + 1, by omega, by go_num, (by first | exact Lib.hid trivial | exact Lib.hid rfl), hI2⟩
        case measure => simp [intOf] <;> omega
    · obtain rfl : k = L.length := by omega
      rw [List.take_length] at hI
      obtain rfl : b = false := (by rw [← hb.out]; exact decide_eq_false (fun h => hI.out s h rfl))
      go_wp2
      go_ret
      exact ⟨rfl, rfl⟩
theorem lvl_at {M : Nat} {w : World} {A : Option Addr} {n cap : Nat} {N : List ByteArray} {nf : ByteArray → Nat} (h : SlRep 2 M RLv w (.slice A n cap) (N.map fun s => (s, nf s))) {k : Nat} (hk : k < N.length) :
    ∃ b off, A = some ⟨b, off, none⟩ ∧ w.cell? ⟨b, off + k * 2, none⟩ = some (.string N[k]) ∧ w.cell? ⟨b, off + k * 2 + 1, none⟩ = some (.int .i32 ((nf N[k] : Nat) : Int)) := by
  obtain ⟨A1, cap1, hv, _, _, h3⟩ := h
  obtain ⟨b, off, cs, hA, hl, hc, hr⟩ := h3 k (N[k], nf N[k]) (by rw [List.getElem?_map, List.getElem?_eq_getElem hk]; rfl)
  injection hv with hv _ _
  obtain rfl : cs = _ := hr
  exact ⟨b, off, hv.trans hA, hc 0 _ rfl, hc 1 _ rfl⟩
theorem ba_ne {z s : ByteArray} (hz : z ≠ s) : (z.toList == s.toList) = false := by
  rw [beq_eq_false_iff_ne]
  intro h
  rw [ByteArray.toList_eq, ByteArray.toList_eq] at h
  exact hz (ByteArray.ext (Array.toList_inj.1 (by simpa using h)))
set_option maxHeartbeats 1600000 in
set_option maxRecDepth 100000 in
theorem level_any {M : Nat} (s : ByteArray) (A : Option Addr) (c : Nat) (N : List ByteArray) (nf : ByteArray → Nat) (w : World) (h : SlRep 2 M RLv w (.slice A N.length c) (N.map fun s => (s, nf s))) (hM : M ≤ 9223372036854775807) (hs : s ∈ N) :
    Calls Tryz.prog 12 #[.slice A N.length c, .string s] w fun e w' => e = .returned (.tuple #[.int .i32 ((nf s : Nat) : Int), .bool true]) ∧ w' = w := by
  have H := Lib.hid h
  obtain ⟨_, _, hv, hl1, hl2⟩ := h.form
  rw [List.length_map] at hl1
  have hxl : N.length ≤ 9223372036854775807 := by omega
  have HS := Lib.hid hs
  clear h hv hl1 hl2 hs
  go_enter Tryz.func12, Tryz.ntmps12
  go_wp2_with fail
  go_loopw [6] (fun i wr => ∃ k : Nat, k ≤ N.length ∧ i = .int .i64 k ∧ Hid (wr = w) ∧ Hid (∀ x ∈ N.take k, x ≠ s)) (fun i _ => N.length - (intOf i).toNat)
  case atStart => exact ⟨0, Nat.zero_le _, rfl, Lib.hid rfl, Lib.hid (fun x hx => by simp at hx)⟩
  case round =>
    obtain ⟨k, hk, rfl, hW, hI⟩ := hrel
    obtain rfl := hW.out
    by_cases hlt : k < N.length
    · have hltI : (k : Int) < N.length := by omega
      have e0 : (0 : Int) ≤ k ∧ (k : Int) < N.length := by omega
      obtain ⟨b', off, rfl, u0, u1⟩ := lvl_at H.out hlt
      have hnx := Lib.hid (List.take_succ_eq_append_getElem hlt)
      generalize N[k] = z at *
      by_cases hz : z = s
      · subst hz
        go_wp2
        refine bodyPost_ret (v := .tuple #[.int .i32 ((nf z : Nat) : Int), .bool true]) (by simp [results, Tryz.results12, go_sem]) rfl ?_
        exact ⟨rfl, rfl⟩
      · have hI2 : Hid (∀ x ∈ N.take (k + 1), x ≠ s) := Lib.hid fun x hx => by
          rw [hnx.out, List.mem_append] at hx
          rcases hx with hx | hx
          · exact hI.out x hx
          · rw [List.mem_singleton] at hx; subst hx; exact hz
        have hzb := ba_ne hz
        go_wp2
        go_roundw
        case rel => exact ⟨k + 1, by omega, by go_num, (by first | exact Lib.hid trivial | exact Lib.hid rfl), hI2⟩
        case measure => simp [intOf] <;> omega
    · obtain rfl : k = N.length := by omega
      rw [List.take_length] at hI
      exact absurd rfl (hI.out s HS.out)
/-- The law's way to a reason. -/
structure Rs (es : List Ed) (nf : ByteArray → Nat) (n : Nat) (p : ByteArray) (seen : List ByteArray) (i k : Nat) : Prop where
  bf : Bf es (fun e => nf e.t = n) p seen i k
  no : ∀ (j : Nat) x, j < i → seen[j]? = some x → ∀ e ∈ es, e.f = x → ¬ (nf e.t + 1 = n ∧ e.strict = true)
  nok : ∀ x, seen[i]? = some x → ∀ e ∈ es.take k, e.f = x → ¬ (nf e.t + 1 = n ∧ e.strict = true)
section
variable {es : List Ed} {nf : ByteArray → Nat} {n : Nat} {p x : ByteArray} {seen : List ByteArray} {i k : Nat}
theorem Rs.start (es : List Ed) (nf : ByteArray → Nat) (n : Nat) (p : ByteArray) : Rs es nf n p [p] 0 0 := ⟨Bf.start _ _ _, fun j x hj => by omega, fun x _ e he => by simp at he⟩
theorem Rs.skip (h : Rs es nf n p seen i k) (hk : k < es.length) (hx : ∀ x, seen[i]? = some x → es[k].f = x → ¬ (nf es[k].t + 1 = n ∧ es[k].strict = true) ∧ (nf es[k].t = n → es[k].t ∈ seen)) : Rs es nf n p seen i (k + 1) :=
  ⟨h.bf.skip hk fun x hi ho hf => (hx x hi hf).2 ho, h.no, fun x hi e he hf => by
    rw [List.take_succ_eq_append_getElem hk, List.mem_append, List.mem_singleton] at he
    rcases he with he | rfl
    · exact h.nok x hi e he hf
    · exact (hx x hi hf).1⟩
theorem Rs.push (h : Rs es nf n p seen i k) (hk : k < es.length) (hi : seen[i]? = some x) (ho : nf es[k].t = n) (hf : es[k].f = x) (hn : es[k].t ∉ seen) (hr : ¬ (nf es[k].t + 1 = n ∧ es[k].strict = true)) : Rs es nf n p (seen ++ [es[k].t]) i (k + 1) := by
  have hil : i < seen.length := (List.getElem?_eq_some_iff.1 hi).1
  have hget : ∀ (j : Nat), j ≤ i → (seen ++ [es[k].t])[j]? = seen[j]? := fun j hj => List.getElem?_append_left (by omega)
  refine ⟨h.bf.push hk hi ho hf hn, fun j y hj hy => ?_, fun y hy e he hfe => ?_⟩
  · rw [hget j (by omega)] at hy
    exact h.no j y hj hy
  · rw [hget i (Nat.le_refl _)] at hy
    rw [List.take_succ_eq_append_getElem hk, List.mem_append, List.mem_singleton] at he
    rcases he with he | rfl
    · exact h.nok y hy e he hfe
    · exact hr
theorem Rs.next (h : Rs es nf n p seen i es.length) (hi : i < seen.length) : Rs es nf n p seen (i + 1) 0 :=
  ⟨h.bf.next hi, fun j x hj hx e he hf => by
    by_cases hji : j < i
    · exact h.no j x hji hx e he hf
    · have : j = i := by omega
      subst this
      exact h.nok x hx e (by rw [List.take_length]; exact he) hf, fun x _ e he => by simp at he⟩
theorem Rs.never (h : Rs es nf n p seen seen.length k) (hl : LeastL es nf) (hp : nf p = n) (h0 : 0 < n) : False := by
  have hlv : ∀ x ∈ seen, nf x = n := h.bf.snd (fun x => nf x = n) hp fun e he ho _ => ho
  refine level_reason hl hp h0 h.bf.hd hlv fun e he hf => ?_
  obtain ⟨j, hj⟩ := List.getElem?_of_mem hf
  exact ⟨h.no j _ (List.getElem?_eq_some_iff.1 hj).1 hj e he rfl, fun ho => h.bf.closed e he ho hf⟩
end
/-- Levels are not high. -/
theorem least_bound {rs : List Ru} (h : Small rs) (hn : ∀ y ∈ edgesP rs, ¬ RoundE rs y) {nf : ByteArray → Nat} (hl : LeastL (edgesP rs) nf) (s : ByteArray) : nf s ≤ 100000000 := by
  obtain ⟨T, _, hT⟩ := tarj_rules h
  have hv : Holds (edgesP rs) (lk0 T.inn) := fun e he => by
    have hn' := edge_names he
    have hd := hT.down hn'.1 hn'.2 (edge_suc.2 ⟨e, he, rfl, rfl⟩)
    unfold Ed.up
    split
    · rename_i hs
      have h1 : lk0 T.inn e.f ≠ lk0 T.inn e.t := fun e' => hn e he ((round_iff hT he).1 (by rw [hs, Bool.true_and]; exact decide_eq_true e'))
      omega
    · omega
  have hB : lk0 T.inn s ≤ 100000000 := by
    have h1 := (hT.sound (by have := draw_len h; omega)).len
    unfold lk0 lkN
    cases hq : T.inn.find? fun x => decide (x.1 = s) with
    | none => exact Nat.zero_le _
    | some x =>
      have := hT.inv.num x (List.mem_of_find?_eq_some hq)
      show x.2 ≤ _
      omega
  exact Nat.le_trans (hl.2 _ hv s) hB
end Go.Proofs.YtackadhamghblaaGreat
/- The law's reason: where a level is not 0 there is one. -/
namespace Go.Proofs.YtackadhamghblaaGreat
open Go.RowKit Go.WideMaps Go.Maps
set_option linter.unusedSimpArgs false
set_option linter.unusedVariables false

set_option maxHeartbeats 4000000 in
set_option maxRecDepth 100000 in
theorem reason_any {M M' : Nat} (Ae Al : Option Addr) (ce cl : Nat) (es : List Ed) (N : List ByteArray) (nf : ByteArray → Nat) (s : ByteArray) (w : World) (he : SlRep 4 M REd w (.slice Ae es.length ce) es) (hl : SlRep 2 M' RLv w (.slice Al N.length cl) (N.map fun s => (s, nf s))) (hM : M ≤ 9223372036854775807) (hM' : M' ≤ 9223372036854775807)
    (hel : es.length ≤ 10000000) (hN : ∀ e ∈ es, e.t ∈ N) (hL : LeastL es nf) (hb : ∀ s, nf s ≤ 100000000) (h0 : 0 < nf s) :
    Calls Tryz.prog 11 #[.slice Ae es.length ce, .slice Al N.length cl, .string s, .int .i32 ((nf s : Nat) : Int)] w fun e w' => e = .returned (.bool true) ∧ Fut w w' := by
  have HE := Lib.hid he
  have HLv := Lib.hid hl
  have HN := Lib.hid hN
  have HL := Lib.hid hL
  have HB := Lib.hid hb
  obtain ⟨n, hn⟩ : ∃ n, nf s = n := ⟨_, rfl⟩
  rw [hn] at h0 ⊢
  have hn8 : n ≤ 100000000 := by rw [← hn]; exact hb s
  replace hn := Lib.hid hn
  have e32 : IntKind.i32.wrap ((n : Int) - 1) = ((n - 1 : Nat) : Int) := by rw [IntKind.wrap_i32]; omega
  have F0 := Fut.alloc w (.cells #[.string s] 9)
  have hO0 : OwnL 1 w.heap.size 9 RNm (w.alloc (.cells #[.string s] 9)) (.slice (some ⟨w.heap.size, 0, none⟩) [s].length 1) [s] :=
    ⟨[[.string s]], rfl, fun i cs x hi hx => by
      match i, hi, hx with
      | 0, hi, hx => injection hi with hi; injection hx with hx; subst hi; subst hx; exact ⟨rfl, rfl⟩
      | i + 1, hi, hx => simp at hx, rfl, .inr ⟨w.heap.size, 1, #[.string s], rfl, Nat.le_refl _, heap_alloc_new w _, Nat.le_refl _, by unfold maxLen; omega, rfl, rfl⟩⟩
  have HO0 := Lib.hid hO0
  have F0h := Lib.hid F0
  clear he hl hN hL hb hO0 F0
  go_enter Tryz.func11, Tryz.ntmps11
  go_wp2_with fail
  go_loopw [9, 10, 11, 12, 13] (fun u i _ _ _ W => ∃ (seen : List ByteArray) (j : Nat), i = .int .i64 j ∧ j ≤ seen.length ∧ Hid (Rs es nf n s seen j 0) ∧ Hid (Nms w.heap.size W u seen) ∧ Hid (Fut w W)) (fun _ i _ _ _ _ => es.length + 2 - (intOf i).toNat)
  case atStart => exact ⟨[s], 0, rfl, Nat.zero_le _, Lib.hid (Rs.start es nf n s), HO0, F0h⟩
  case round =>
    clear HO0 F0h
    obtain ⟨seen, j, rfl, hj, hR, hO, hF⟩ := hrel
    obtain ⟨wq, rfl⟩ : ∃ x, x = wr := ⟨_, rfl⟩
    have hsl := hR.out.bf.len
    obtain ⟨Au, cu, rfl, hu1, hu2⟩ := hO.out.rep.form
    by_cases hlt : j < seen.length
    · have hltI : (j : Int) < seen.length := by omega
      have hR0 := Lib.hid (show ∃ seen', seen'[j]? = some seen[j] ∧ Rs es nf n s seen' j 0 ∧ Nms w.heap.size wq (.slice Au seen.length cu) seen' from ⟨seen, List.getElem?_eq_getElem hlt, hR.out, hO.out⟩)
      obtain ⟨x, hx⟩ : ∃ x, seen[j] = x := ⟨_, rfl⟩
      rw [hx] at hR0
      clear hR hO hx
      go_wp2_with fail
      go_loopw [9, 11, 12, 13] (fun u i _ _ W => ∃ (seen : List ByteArray) (k : Nat), i = .int .i64 k ∧ k ≤ es.length ∧ Hid (seen[j]? = some x) ∧ Hid (Rs es nf n s seen j k) ∧ Hid (Nms w.heap.size W u seen) ∧ Hid (Fut w W)) (fun _ i _ _ _ => es.length - (intOf i).toNat)
      case atStart =>
        obtain ⟨seen', q1, q2, q3⟩ := hR0.out
        exact ⟨seen', 0, rfl, Nat.zero_le _, Lib.hid q1, Lib.hid q2, Lib.hid q3, hF⟩
      case round =>
        clear hR0 hF
        obtain ⟨sn, k, rfl, hk, hX, hR, hO, hF⟩ := hrel
        obtain ⟨wz, rfl⟩ : ∃ x, x = wr := ⟨_, rfl⟩
        have hsl2 := hR.out.bf.len
        obtain ⟨Av, cv, rfl, hv1, hv2⟩ := hO.out.rep.form
        by_cases hkl : k < es.length
        · have hkI : (k : Int) < es.length := by omega
          have e0 : (0 : Int) ≤ k ∧ (k : Int) < es.length := by omega
          obtain ⟨be, oe, rfl, hce⟩ := ed_at (HE.out.fut REd.stays hF.out) hkl
          have hjl : j < sn.length := (List.getElem?_eq_some_iff.1 hX.out).1
          obtain ⟨bs, os, rfl, xs0⟩ := nm_at hO.out.rep hjl
          have hxj : sn[j] = x := by
            have h9 := hX.out
            rw [List.getElem?_eq_getElem hjl] at h9
            exact Option.some.inj h9
          rw [hxj] at xs0
          have hjI : (j : Int) < sn.length := by omega
          have e1 : (0 : Int) ≤ j ∧ (j : Int) < sn.length := by omega
          have hmem := Lib.hid (List.getElem_mem hkl)
          have HSk := Lib.hid (fun hx => hR.out.skip hkl hx)
          have HPu := Lib.hid (fun ho hf hn hr => hR.out.push (x := x) hkl hX.out ho hf hn hr)
          generalize es[k] = e at *
          have u0 : wz.cell? ⟨be, oe + k * 4, none⟩ = some (.string e.f) := hce 0 _ rfl
          have u1 := hce 1 _ rfl
          have u2 := hce 2 _ rfl
          clear hce hxj
          by_cases hf : e.f = x
          rotate_left
          · have hfb := ba_ne hf
            have HR2 := Lib.hid (HSk.out fun y hy hfy => absurd (hfy.trans (Option.some.inj (hy.symm.trans hX.out))) hf)
            clear HSk HPu
            go_wp2_with fail
            refine wp_graph 10 [.d, .d, .d, .d, .d, .d, .d, .d, .d, .d] (by kernel_rfl) (by kernel_rfl) (by kernel_rfl) ?_
            simp only [List.take_succ_cons, List.take_zero, List.drop_succ_cons, List.drop_zero, Exs]
            iterate 10 apply Exists.intro
            apply Run.valG (wanted_none rfl _)
            · intro w1 h1 hk
              have q0 := h1.cell u0; have q1 := h1.cell xs0
              have hcw := fun b o => Below.cell (p := ⟨b, o, none⟩) h1
              go_simp; rfl
            simp only [Act.put, List.setIfInBounds_toArray, List.set_cons_succ, List.set_cons_zero, List.nil_append, List.cons_append]
            apply Run.valG (wanted_none rfl _)
            · intro w1 h1 hk
              have q0 := h1.cell u0; have q1 := h1.cell xs0
              have hcw := fun b o => Below.cell (p := ⟨b, o, none⟩) h1
              go_simp; rfl
            simp only [Act.put, List.setIfInBounds_toArray, List.set_cons_succ, List.set_cons_zero, List.nil_append, List.cons_append]
            apply Run.valG (wanted_none rfl _)
            · intro w1 h1 hk
              have q0 := h1.cell u0; have q1 := h1.cell xs0
              have hcw := fun b o => Below.cell (p := ⟨b, o, none⟩) h1
              go_simp; rfl
            simp only [Act.put, List.setIfInBounds_toArray, List.set_cons_succ, List.set_cons_zero, List.nil_append, List.cons_append]
            apply Run.valG (wanted_none rfl _)
            · intro w1 h1 hk
              have q0 := h1.cell u0; have q1 := h1.cell xs0
              have hcw := fun b o => Below.cell (p := ⟨b, o, none⟩) h1
              go_simp; rfl
            simp only [Act.put, List.setIfInBounds_toArray, List.set_cons_succ, List.set_cons_zero, List.nil_append, List.cons_append]
            apply Run.valG (wanted_none rfl _)
            · intro w1 h1 hk
              have q0 := h1.cell u0; have q1 := h1.cell xs0
              have hcw := fun b o => Below.cell (p := ⟨b, o, none⟩) h1
              go_simp; rfl
            simp only [Act.put, List.setIfInBounds_toArray, List.set_cons_succ, List.set_cons_zero, List.nil_append, List.cons_append]
            apply Run.valG (wanted_none rfl _)
            · intro w1 h1 hk
              have q0 := h1.cell u0; have q1 := h1.cell xs0
              have hcw := fun b o => Below.cell (p := ⟨b, o, none⟩) h1
              go_simp; rfl
            simp only [Act.put, List.setIfInBounds_toArray, List.set_cons_succ, List.set_cons_zero, List.nil_append, List.cons_append]
            apply Run.valG (wanted_none rfl _)
            · intro w1 h1 hk
              have q0 := h1.cell u0; have q1 := h1.cell xs0
              have hcw := fun b o => Below.cell (p := ⟨b, o, none⟩) h1
              go_simp; rfl
            simp only [Act.put, List.setIfInBounds_toArray, List.set_cons_succ, List.set_cons_zero, List.nil_append, List.cons_append]
            apply Run.valG (wanted_none rfl _)
            · intro w1 h1 hk
              have q0 := h1.cell u0; have q1 := h1.cell xs0
              have hcw := fun b o => Below.cell (p := ⟨b, o, none⟩) h1
              go_simp; rfl
            simp only [Act.put, List.setIfInBounds_toArray, List.set_cons_succ, List.set_cons_zero, List.nil_append, List.cons_append]
            apply Run.valG (wanted_none rfl _)
            · intro w1 h1 hk
              have q0 := h1.cell u0; have q1 := h1.cell xs0
              have hcw := fun b o => Below.cell (p := ⟨b, o, none⟩) h1
              go_simp; rfl
            simp only [Act.put, List.setIfInBounds_toArray, List.set_cons_succ, List.set_cons_zero, List.nil_append, List.cons_append]
            apply Run.valG (wanted_none rfl _)
            · intro w1 h1 hk
              have q0 := h1.cell u0; have q1 := h1.cell xs0
              have hcw := fun b o => Below.cell (p := ⟨b, o, none⟩) h1
              go_simp; rfl
            simp only [Act.put, List.setIfInBounds_toArray, List.set_cons_succ, List.set_cons_zero, List.nil_append, List.cons_append]
            apply Run.done
            intro w2 h2 hk
            clear hk
            have F2 := (Fut.drew _).trans h2
            have HF2 := Lib.hid (hF.out.trans F2)
            have HO2 := Lib.hid (hO.out.fut RNm.stays F2)
            clear F2 h2
            go_wp2
            go_roundw
            case rel => exact ⟨sn, k + 1, by go_num, by omega, hX, HR2, HO2, HF2⟩
            case measure => simp [intOf] <;> omega
          · rw [hf] at u0
            have hfb : (x.toList == x.toList) = true := by simp
            have HLe := Lib.hid (fun W (hW : Fut w W) => level_any e.t Al cl N nf W (HLv.out.fut RLv.stays hW) hM' (HN.out e hmem.out))
            have hbt := HB.out e.t
            obtain ⟨m, hm⟩ : ∃ m, nf e.t = m := ⟨_, rfl⟩
            simp only [hm] at HLe
            rw [hm] at hbt
            go_wp2_with fail
            refine wp_graph 10 [.d, .d, .d, .d, .d, .d, .d, .d, .d, .d] (by kernel_rfl) (by kernel_rfl) (by kernel_rfl) ?_
            simp only [List.take_succ_cons, List.take_zero, List.drop_succ_cons, List.drop_zero, Exs]
            iterate 10 apply Exists.intro
            apply Run.valG (wanted_none rfl _)
            · intro w1 h1 hk
              have q0 := h1.cell u0; have q1 := h1.cell xs0
              have hcw := fun b o => Below.cell (p := ⟨b, o, none⟩) h1
              go_simp; rfl
            simp only [Act.put, List.setIfInBounds_toArray, List.set_cons_succ, List.set_cons_zero, List.nil_append, List.cons_append]
            apply Run.valG (wanted_none rfl _)
            · intro w1 h1 hk
              have q0 := h1.cell u0; have q1 := h1.cell xs0
              have hcw := fun b o => Below.cell (p := ⟨b, o, none⟩) h1
              go_simp; rfl
            simp only [Act.put, List.setIfInBounds_toArray, List.set_cons_succ, List.set_cons_zero, List.nil_append, List.cons_append]
            apply Run.valG (wanted_none rfl _)
            · intro w1 h1 hk
              have q0 := h1.cell u0; have q1 := h1.cell xs0
              have hcw := fun b o => Below.cell (p := ⟨b, o, none⟩) h1
              go_simp; rfl
            simp only [Act.put, List.setIfInBounds_toArray, List.set_cons_succ, List.set_cons_zero, List.nil_append, List.cons_append]
            apply Run.valG (wanted_none rfl _)
            · intro w1 h1 hk
              have q0 := h1.cell u0; have q1 := h1.cell xs0
              have hcw := fun b o => Below.cell (p := ⟨b, o, none⟩) h1
              go_simp; rfl
            simp only [Act.put, List.setIfInBounds_toArray, List.set_cons_succ, List.set_cons_zero, List.nil_append, List.cons_append]
            apply Run.valG (wanted_none rfl _)
            · intro w1 h1 hk
              have q0 := h1.cell u0; have q1 := h1.cell xs0
              have hcw := fun b o => Below.cell (p := ⟨b, o, none⟩) h1
              go_simp; rfl
            simp only [Act.put, List.setIfInBounds_toArray, List.set_cons_succ, List.set_cons_zero, List.nil_append, List.cons_append]
            apply Run.valG (wanted_none rfl _)
            · intro w1 h1 hk
              have q0 := h1.cell u0; have q1 := h1.cell xs0
              have hcw := fun b o => Below.cell (p := ⟨b, o, none⟩) h1
              go_simp; rfl
            simp only [Act.put, List.setIfInBounds_toArray, List.set_cons_succ, List.set_cons_zero, List.nil_append, List.cons_append]
            apply Run.valG (wanted_none rfl _)
            · intro w1 h1 hk
              have q0 := h1.cell u0; have q1 := h1.cell xs0
              have hcw := fun b o => Below.cell (p := ⟨b, o, none⟩) h1
              go_simp; rfl
            simp only [Act.put, List.setIfInBounds_toArray, List.set_cons_succ, List.set_cons_zero, List.nil_append, List.cons_append]
            apply Run.valG (wanted_none rfl _)
            · intro w1 h1 hk
              have q0 := h1.cell u0; have q1 := h1.cell xs0
              have hcw := fun b o => Below.cell (p := ⟨b, o, none⟩) h1
              go_simp; rfl
            simp only [Act.put, List.setIfInBounds_toArray, List.set_cons_succ, List.set_cons_zero, List.nil_append, List.cons_append]
            apply Run.valG (wanted_none rfl _)
            · intro w1 h1 hk
              have q0 := h1.cell u0; have q1 := h1.cell xs0
              have hcw := fun b o => Below.cell (p := ⟨b, o, none⟩) h1
              go_simp; rfl
            simp only [Act.put, List.setIfInBounds_toArray, List.set_cons_succ, List.set_cons_zero, List.nil_append, List.cons_append]
            apply Run.valG (wanted_none rfl _)
            · intro w1 h1 hk
              have q0 := h1.cell u0; have q1 := h1.cell xs0
              have hcw := fun b o => Below.cell (p := ⟨b, o, none⟩) h1
              go_simp; rfl
            simp only [Act.put, List.setIfInBounds_toArray, List.set_cons_succ, List.set_cons_zero, List.nil_append, List.cons_append]
            apply Run.done
            intro w2 h2 hk
            clear hk
            have F2 := (Fut.drew _).trans h2
            have HF2 := Lib.hid (hF.out.trans F2)
            have HO2 := Lib.hid (hO.out.fut RNm.stays F2)
            have v1 := F2.cell u1
            have v2 := F2.cell u2
            have HL2 := Lib.hid (HLe.out _ HF2.out)
            clear F2 h2 u0 u1 u2 xs0 HLe
            go_wp2_with fail
            refine HL2.out.mono ?_
            rintro e9 w9 ⟨rfl, rfl⟩
            by_cases hr : m + 1 = n ∧ e.strict = true
            · obtain ⟨r1, r2⟩ := hr
              have hmb : ((m : Int) == ((n - 1 : Nat) : Int)) = true := by rw [show n - 1 = m by omega]; simp
              have hkb : (e.k == 1) = false := by
                unfold Ed.strict at r2
                rw [beq_eq_false_iff_ne]
                intro h9
                rw [h9] at r2
                exact absurd r2 (by decide)
              clear HSk HPu
              go_wp2
              go_ret
              exact ⟨rfl, HF2.out⟩
            · by_cases hmn : m = n
              · have hm1 : ((m : Int) == ((n - 1 : Nat) : Int)) = false := by rw [beq_eq_false_iff_ne]; omega
                have hm2 : ((m : Int) == (n : Int)) = true := by rw [hmn]; simp
                have HHas := Lib.hid (lhas_any e.t (some ⟨bs, os, none⟩) cv sn _ HO2.out.rep (by decide))
                by_cases hin : e.t ∈ sn
                · rw [decide_eq_true hin] at HHas
                  have HR2 := Lib.hid (HSk.out fun y hy hfy => ⟨by rw [hm]; exact hr, fun _ => hin⟩)
                  clear HSk HPu
                  go_wp2_with fail
                  refine HHas.out.mono ?_
                  rintro e8 w8 ⟨rfl, rfl⟩
                  go_wp2
                  go_roundw
                  case rel => exact ⟨sn, k + 1, by go_num, by omega, hX, HR2, HO2, HF2⟩
                  case measure => simp [intOf] <;> omega
                · rw [decide_eq_false hin] at HHas
                  have HR2 := Lib.hid (HPu.out (by rw [hm]; exact hmn) hf hin (by rw [hm]; exact hr))
                  have HX2 := Lib.hid (show (sn ++ [e.t])[j]? = some x from by rw [List.getElem?_append_left hjl]; exact hX.out)
                  have hsz2 := HF2.out.size
                  clear HSk HPu hX
                  go_wp2_with fail
                  refine HHas.out.mono ?_
                  rintro e8 w8 ⟨rfl, rfl⟩
                  go_wp2_with (first | (at_builtin; refine wpList_append_LB (R := RNm) (B := w.heap.size) (M := 1) (xs := sn) (ys := [e.t]) (e := 9) (by go_simp) _ _ tVl' rfl Tryz.underlying37 (.string ⟨#[]⟩) 16 infoNm rfl (by decide) RNm.one RNm.keeps rfl rfl (HO2.out.fut RNm.stays (Fut.alloc _ _)) (nmOne _ _ _) ?l3 ?m3 ?b3 ?k3))
                  case l3 => simp [maxLen]; omega
                  case m3 => simp; omega
                  case b3 => simp; omega
                  case k3 =>
                  intro v' w' o' g' sn'
                  have HO4 := Lib.hid o'
                  have HF4 := Lib.hid ((HF2.out.trans (Fut.alloc _ _)).grown g' (fun k hk => (HO2.out.block k hk).1))
                  clear o' g' sn' HHas
                  go_wp2
                  go_roundw
                  case rel => exact ⟨sn ++ [e.t], k + 1, by go_num, by omega, HX2, HR2, HO4, HF4⟩
                  case measure => simp [intOf] <;> omega
              · have hm2 : ((m : Int) == (n : Int)) = false := by rw [beq_eq_false_iff_ne]; omega
                have HR2 := Lib.hid (HSk.out fun y hy hfy => ⟨by rw [hm]; exact hr, fun h9 => absurd (hm.symm.trans h9) hmn⟩)
                clear HSk HPu
                by_cases hm3 : m + 1 = n
                · have hm1 : ((m : Int) == ((n - 1 : Nat) : Int)) = true := by rw [show n - 1 = m by omega]; simp
                  have hst : ¬ e.strict = true := fun h9 => hr ⟨hm3, h9⟩
                  have hk1 : e.k = 1 := by
                    refine Decidable.byContradiction fun h9 => hst ?_
                    unfold Ed.strict
                    rw [decide_eq_false h9]; rfl
                  rw [hk1] at v2
                  go_wp2
                  go_roundw
                  case rel => exact ⟨sn, k + 1, by go_num, by omega, hX, HR2, HO2, HF2⟩
                  case measure => simp [intOf] <;> omega
                · have hm1 : ((m : Int) == ((n - 1 : Nat) : Int)) = false := by rw [beq_eq_false_iff_ne]; omega
                  go_wp2
                  go_roundw
                  case rel => exact ⟨sn, k + 1, by go_num, by omega, hX, HR2, HO2, HF2⟩
                  case measure => simp [intOf] <;> omega
        · obtain rfl : k = es.length := by omega
          have hjl : j < sn.length := (List.getElem?_eq_some_iff.1 hX.out).1
          have HR2 := Lib.hid (hR.out.next hjl)
          clear hR
          go_wp2
          go_roundw
          case rel => exact ⟨sn, j + 1, by go_num, by omega, HR2, hO, hF⟩
          case measure => simp [intOf] <;> omega
    · obtain rfl : j = seen.length := by omega
      exact (hR.out.never HL.out hn.out h0).elim
end Go.Proofs.YtackadhamghblaaGreat
/- What names come to along a graph, by a stack and a set: the way is right. No program. -/
namespace Go.Proofs.YtackadhamghblaaGreat
open Go.RowKit
set_option linter.unusedSimpArgs false
set_option linter.unusedVariables false

/-- On the way: the names to begin with, the stack, what has been seen. -/
structure ReInv (G : Gr) (F st seen : List ByteArray) : Prop where
  nd : seen.Nodup
  snd : ∀ x, x ∈ st ∨ x ∈ seen → ∃ f ∈ F, Rch G f x
  frm : ∀ f ∈ F, f ∈ st ∨ f ∈ seen
  cl : ∀ s ∈ seen, ∀ t ∈ sucs G s, t ∈ st ∨ t ∈ seen
theorem ReInv.start (G : Gr) (F : List ByteArray) : ReInv G F F [] :=
  ⟨List.nodup_nil, (fun x hx => by
    rcases hx with hx | hx
    · exact ⟨x, hx, .refl x⟩
    · exact nomatch hx), (fun f hf => .inl hf), (fun s hs => nomatch hs)⟩
section
variable {G : Gr} {F st seen : List ByteArray} {s : ByteArray}
theorem ReInv.skip (h : ReInv G F (st ++ [s]) seen) (hs : s ∈ seen) : ReInv G F st seen := by
  refine ⟨h.nd, fun x hx => h.snd x (hx.imp (List.mem_append_left _) id), fun f hf => ?_, fun u hu t ht => ?_⟩
  · rcases h.frm f hf with q | q
    · rcases List.mem_append.1 q with q | q
      · exact .inl q
      · rw [List.mem_singleton] at q; subst q; exact .inr hs
    · exact .inr q
  · rcases h.cl u hu t ht with q | q
    · rcases List.mem_append.1 q with q | q
      · exact .inl q
      · rw [List.mem_singleton] at q; subst q; exact .inr hs
    · exact .inr q
theorem ReInv.take (h : ReInv G F (st ++ [s]) seen) (hs : s ∉ seen) : ReInv G F (st ++ sucs G s) (seen ++ [s]) := by
  have h0 := h.snd s (.inl (List.mem_append_right _ (List.mem_singleton.2 rfl)))
  have hup : ∀ x, x ∈ st ++ [s] ∨ x ∈ seen → x ∈ st ++ sucs G s ∨ x ∈ seen ++ [s] := fun x hx => by
    rcases hx with hx | hx
    · rcases List.mem_append.1 hx with q | q
      · exact .inl (List.mem_append_left _ q)
      · exact .inr (List.mem_append_right _ q)
    · exact .inr (List.mem_append_left _ hx)
  refine ⟨?_, fun x hx => ?_, fun f hf => hup f (h.frm f hf), fun u hu t ht => ?_⟩
  · rw [List.nodup_append]
    refine ⟨h.nd, by simp, fun a ha b hb e => ?_⟩
    rw [List.mem_singleton] at hb
    exact hs (by rw [← hb, ← e]; exact ha)
  · rcases hx with hx | hx
    · rcases List.mem_append.1 hx with q | q
      · exact h.snd x (.inl (List.mem_append_left _ q))
      · obtain ⟨f, hf, hr⟩ := h0
        exact ⟨f, hf, hr.trans (.one q)⟩
    · rcases List.mem_append.1 hx with q | q
      · exact h.snd x (.inr q)
      · rw [List.mem_singleton] at q; subst q; exact h0
  · rcases List.mem_append.1 hu with q | q
    · exact hup t (h.cl u q t ht)
    · rw [List.mem_singleton] at q; subst q
      exact .inl (List.mem_append_right _ ht)
theorem ReInv.done (h : ReInv G F [] seen) (x : ByteArray) : x ∈ seen ↔ ∃ f ∈ F, Rch G f x := by
  refine ⟨fun hx => h.snd x (.inr hx), fun ⟨f, hf, hr⟩ => ?_⟩
  refine hr.closed (D := fun x => x ∈ seen) (fun u hu t ht => ?_) ?_
  · rcases h.cl u hu t ht with q | q
    · cases q
    · exact q
  · rcases h.frm f hf with q | q
    · cases q
    · exact q
end
/-- What is left to do at most. -/
def reW (seen : List ByteArray) (x : ByteArray × List ByteArray) : Nat := if x.1 ∈ seen then 0 else x.2.length
def reM (G : Gr) (st seen : List ByteArray) : Nat := st.length + (G.map (reW seen)).sum
theorem reW_le {seen : List ByteArray} {s : ByteArray} (x : ByteArray × List ByteArray) : reW (seen ++ [s]) x ≤ reW seen x := by
  unfold reW
  by_cases h : x.1 ∈ seen
  · rw [if_pos h, if_pos (List.mem_append_left _ h)]; exact Nat.le_refl _
  · rw [if_neg h]
    split
    · omega
    · exact Nat.le_refl _
theorem reM_sum {seen : List ByteArray} {s : ByteArray} (hs : s ∉ seen) : ∀ G : Gr, (sucs G s).length + (G.map (reW (seen ++ [s]))).sum ≤ (G.map (reW seen)).sum
  | [] => by simp [sucs]
  | x :: r => by
    rw [List.map_cons, List.map_cons, List.sum_cons, List.sum_cons]
    by_cases h : x.1 = s
    · have e1 : sucs (x :: r) s = x.2 := by unfold sucs; rw [List.find?_cons_of_pos (by simpa using h)]; rfl
      have e2 : reW (seen ++ [s]) x = 0 := by unfold reW; rw [if_pos]; rw [h]; exact List.mem_append_right _ (List.mem_singleton.2 rfl)
      have e3 : reW seen x = x.2.length := by unfold reW; rw [if_neg]; rw [h]; exact hs
      have e4 : (r.map (reW (seen ++ [s]))).sum ≤ (r.map (reW seen)).sum := by
        clear e1 e2 e3 h
        induction r with
        | nil => simp
        | cons y r ih =>
          rw [List.map_cons, List.map_cons, List.sum_cons, List.sum_cons]
          have := reW_le (seen := seen) (s := s) y
          omega
      rw [e1, e2, e3]
      omega
    · have e1 : sucs (x :: r) s = sucs r s := by unfold sucs; rw [List.find?_cons_of_neg (by simpa using h)]
      have h2 := reM_sum hs r
      have h3 := reW_le (seen := seen) (s := s) x
      rw [e1]
      omega
theorem reM_take {G : Gr} {st seen : List ByteArray} {s : ByteArray} (hs : s ∉ seen) : reM G (st ++ sucs G s) (seen ++ [s]) < reM G (st ++ [s]) seen := by
  unfold reM
  have := reM_sum hs G
  rw [List.length_append, List.length_append, List.length_singleton]
  omega
theorem reM_skip {G : Gr} {st seen : List ByteArray} {s : ByteArray} : reM G st seen < reM G (st ++ [s]) seen := by
  unfold reM
  rw [List.length_append, List.length_singleton]
  omega
theorem reM_start (G : Gr) (F : List ByteArray) : reM G F [] = F.length + (G.map (fun x => x.2.length)).sum := by
  unfold reM
  congr 2
/-- The least number that something holds of. -/
theorem least_ex9 {p : Nat → Prop} : ∀ n, p n → ∃ m, p m ∧ ∀ k, p k → m ≤ k := by
  intro n
  induction n using Nat.strongRecOn with
  | ind n ih =>
    intro hn
    by_cases h : ∃ k, k < n ∧ p k
    · obtain ⟨k, h1, h2⟩ := h
      exact ih k h1 h2
    · exact ⟨n, hn, fun k hk => Nat.le_of_not_lt fun hlt => h ⟨k, hlt, hk⟩⟩
theorem least_ex8 {P : Nat → Prop} (h : ∃ n, P n) : ∃ m, P m ∧ ∀ k, P k → m ≤ k := by
  obtain ⟨n, hn⟩ := h
  exact least_ex9 n hn
noncomputable def leastOf (P : Nat → Prop) : Nat := by
  classical exact if h : ∃ n, P n then Classical.choose (least_ex8 h) else 0
theorem leastOf_spec {P : Nat → Prop} (h : ∃ n, P n) : P (leastOf P) := by
  unfold leastOf
  rw [dif_pos h]
  exact (Classical.choose_spec (least_ex8 h)).1
theorem leastOf_le {P : Nat → Prop} {n : Nat} (h : P n) : leastOf P ≤ n := by
  unfold leastOf
  rw [dif_pos ⟨n, h⟩]
  exact (Classical.choose_spec (least_ex8 ⟨n, h⟩)).2 n h
/-- The successors' number is the edges'. -/
theorem sum_pushG (G : Gr) (hn : G.names.Nodup) (s t : ByteArray) : ((pushG G s t).map (fun x => x.2.length)).sum ≤ (G.map (fun x => x.2.length)).sum + 1 := by
  induction G with
  | nil => simp [pushG]
  | cons x r ih =>
    have hn2 : x.1 ∉ Gr.names r ∧ (Gr.names r).Nodup := List.nodup_cons.1 hn
    have ih := ih hn2.2
    unfold pushG at *
    rw [List.map_cons, List.map_cons, List.sum_cons, List.map_cons, List.sum_cons]
    by_cases h : x.1 = s
    · rw [if_pos h]
      have e : (r.map fun x => if x.1 = s then (x.1, x.2 ++ [t]) else x) = r := by
        conv => rhs; rw [← List.map_id r]
        refine List.map_congr_left fun y hy => ?_
        rw [if_neg]
        · rfl
        · intro e
          exact hn2.1 (by rw [h, ← e]; exact List.mem_map_of_mem hy)
      rw [e]
      simp
      omega
    · rw [if_neg h]
      omega
theorem sum_addG (G : Gr) (s : ByteArray) : ((addG G s).map (fun x => x.2.length)).sum = (G.map (fun x => x.2.length)).sum := by
  unfold addG
  split
  · rfl
  · simp
theorem draw_nodup (rs : List Ru) : (drawP rs).names.Nodup := (draw_ok rs).nd
def gSum (G : Gr) : Nat := (G.map (fun x => x.2.length)).sum
theorem sum_fold (p : ByteArray) : ∀ (ls : List Lt) (G : Gr), G.names.Nodup → gSum (ls.foldl (stepG p) G) ≤ gSum G + ls.length ∧ (ls.foldl (stepG p) G).names.Nodup
  | [], G, h => ⟨Nat.le_refl _, h⟩
  | l :: r, G, h => by
    have h1 : (pushG G p l.p).names.Nodup := by rw [pushG_names]; exact h
    obtain ⟨h2, h3⟩ := sum_fold p r (stepG p G l) (addG_nodup h1 _)
    refine ⟨?_, h3⟩
    have h4 := sum_pushG G h p l.p
    have h5 : gSum (stepG p G l) = ((pushG G p l.p).map (fun x => x.2.length)).sum := sum_addG _ _
    rw [List.foldl_cons, List.length_cons]
    unfold gSum at *
    omega
theorem sum_rules : ∀ (rs : List Ru) (G : Gr), G.names.Nodup → gSum (rs.foldl drawR G) ≤ gSum G + (rs.flatMap Ru.nE).length
  | [], G, h => Nat.le_refl _
  | r :: l, G, h => by
    obtain ⟨h2, h3⟩ := sum_fold r.p (r.b.filter Lt.isA) (addG G r.p) (addG_nodup h _)
    have h4 := sum_rules l (drawR G r) h3
    have h5 : gSum (addG G r.p) = gSum G := sum_addG _ _
    have h6 : gSum (drawR G r) ≤ gSum (addG G r.p) + (r.b.filter Lt.isA).length := h2
    have h7 : (Ru.nE r).length = (r.b.filter Lt.isA).length := by unfold Ru.nE; rw [List.length_map]
    rw [List.foldl_cons, List.flatMap_cons, List.length_append, h7]
    omega
theorem sum_draw {rs : List Ru} (h : Small rs) : gSum (drawP rs) ≤ 10000000 := by
  have h1 := sum_rules rs [] List.nodup_nil
  have h2 := h.edges
  have h3 : (edgesP rs).length = (rs.flatMap Ru.nE).length := by
    rw [← edges_pairs rs 0, List.length_map]
    rfl
  have h4 : gSum [] = 0 := rfl
  unfold drawP
  omega
end Go.Proofs.YtackadhamghblaaGreat
/- depend.graph.reach: what names come to, as a set. -/
namespace Go.Proofs.YtackadhamghblaaGreat
open Go.RowKit Go.WideMaps Go.Maps
set_option linter.unusedSimpArgs false
set_option linter.unusedVariables false

/-- On the way: the stack, what has been seen, in memory. -/
structure RJ (w0 : World) (fv : Value) (F : List ByteArray) (G : Gr) (B0 C : Nat) (lv : Value) (W : World) (st seen : List ByteArray) : Prop where
  inv : ReInv G F st seen
  own : OwnL 1 B0 9 RNm W lv st
  mp : MapE strV W w0.heap.size (setE seen)
  only : Only (fun k => fv.ownBlock = some k ∨ w0.heap.size ≤ k) w0 W
  blk : ∀ k, lv.ownBlock = some k → fv.ownBlock = some k ∨ w0.heap.size ≤ k
  szs : ∀ x, x ∈ st ∨ x ∈ seen → x.size ≤ 140737488351232
  le : reM G st seen ≤ C
def rjP (w0 : World) (fv : Value) (F : List ByteArray) (G : Gr) (B0 C : Nat) (lv : Value) (W : World) (k : Nat) : Prop := ∃ st seen, RJ w0 fv F G B0 C lv W st seen ∧ reM G st seen = k
noncomputable def rjM (w0 : World) (fv : Value) (F : List ByteArray) (G : Gr) (B0 C : Nat) (lv : Value) (W : World) : Nat := leastOf (rjP w0 fv F G B0 C lv W)
theorem RJ.m {w0 : World} {fv : Value} {F : List ByteArray} {G : Gr} {B0 C : Nat} {lv : Value} {W : World} {st seen : List ByteArray} (h : RJ w0 fv F G B0 C lv W st seen) : rjM w0 fv F G B0 C lv W ≤ reM G st seen := leastOf_le ⟨st, seen, h, rfl⟩
theorem last_at {M : Nat} {w : World} {A : Option Addr} {c : Nat} {st : List ByteArray} {s : ByteArray} (h : SlRep 1 M RNm w (.slice A (st ++ [s]).length c) (st ++ [s])) : ∃ b off, A = some ⟨b, off, none⟩ ∧ w.cell? ⟨b, off + st.length, none⟩ = some (.string s) := by
  obtain ⟨b, off, hA, h1⟩ := nm_at h (k := st.length) (by rw [List.length_append, List.length_singleton]; omega)
  refine ⟨b, off, hA, ?_⟩
  rw [List.getElem_append_right (Nat.le_refl _)] at h1
  simpa using h1
set_option maxHeartbeats 4000000 in
set_option maxRecDepth 100000 in
theorem reachG_any {B mb B0 : Nat} {G : Gr} (fv : Value) (F : List ByteArray) (w1 w : World) (h : GrI B w1 mb G) (hF : Fut w1 w) (hf : OwnL 1 B0 9 RNm w fv F) (hB0 : B0 ≤ w.heap.size) (hsz : ∀ x ∈ F, x.size ≤ 140737488351232) (hsep : ∀ k, fv.ownBlock = some k → k < B ∨ w1.heap.size ≤ k) (hM : F.length + gSum G ≤ 100000000) :
    Calls Tryz.prog 25 #[.map (some mb), fv] w fun e w' => ∃ L, e = .returned (.map (some w.heap.size)) ∧ (∀ x, x ∈ L ↔ ∃ f ∈ F, Rch G f x) ∧ L.Nodup ∧ (∀ x ∈ L, x.size ≤ 140737488351232) ∧ MapE strV w' w.heap.size (setE L) ∧ Only (fun k => fv.ownBlock = some k ∨ w.heap.size ≤ k) w w' := by
  obtain ⟨C, hC⟩ : ∃ C, F.length + gSum G = C := ⟨_, rfl⟩
  have hCl : C ≤ 100000000 := by omega
  have hLk : ∀ s, s.size ≤ 140737488351232 → ∃ v, Nms B w1 v (sucs G s) ∧ (∀ x ∈ sucs G s, x.size ≤ 140737488351232) ∧ (∀ k, v.ownBlock = some k → ¬ (fv.ownBlock = some k ∨ w.heap.size ≤ k)) ∧ ∀ W', Only (fun k => fv.ownBlock = some k ∨ w.heap.size ≤ k) w W' → (Instr.lookup tG (.map (some mb)) (.string s) false).run Tryz.prog W' = .ok v W' := fun s hs => by
    have hml : mb < w1.heap.size := by
      obtain ⟨l, h9⟩ := h.mapE
      exact h9.lt
    have hms : ¬ (fv.ownBlock = some mb ∨ w.heap.size ≤ mb) := by
      have h2 := hF.size
      have h3 := h.ge
      rintro (h9 | h9)
      · rcases hsep _ h9 with h8 | h8 <;> omega
      · omega
    obtain ⟨v, g1, g2, g3⟩ := h.lookO (S := fun k => fv.ownBlock = some k ∨ w.heap.size ≤ k) hs hms
    refine ⟨v, g1, g2, fun k hk => ?_, fun W' hW => g3 W' ((Only.fut hF).trans hW)⟩
    have h1 := g1.block k hk
    have h2 := hF.size
    rintro (h9 | h9)
    · rcases hsep _ h9 with h8 | h8 <;> omega
    · omega
  have J0 : RJ w fv F G B0 C fv (w.alloc (.map #[] 0)) F [] := ⟨ReInv.start G F, hf.fut RNm.stays (Fut.alloc w _), MapE.new (kv := strV) w, Only.fut (Fut.alloc w _), fun k hk => .inl hk, fun x hx => by
    rcases hx with hx | hx
    · exact hsz x hx
    · exact (nomatch hx), by rw [reM_start]; unfold gSum at hC; omega⟩
  have HJ0 := Lib.hid J0
  have HLk := Lib.hid hLk
  have HF := Lib.hid hF
  have HfB := Lib.hid hf.block
  have HB0 := Lib.hid hB0
  clear J0 hLk h hF hsz hsep hM hC
  obtain ⟨A0, c0, rfl, _, _⟩ := hf.rep.form
  clear hf
  obtain ⟨fv, hfv⟩ : ∃ v, Value.slice A0 F.length c0 = v := ⟨_, rfl⟩
  rw [hfv] at HJ0 HLk HfB
  replace hfv := Lib.hid hfv
  have hmm := @run_makeMap Tryz.prog
  go_enter Tryz.func25, Tryz.ntmps25
  go_wp2_with fail
  clear hmm
  go_loopw [1, 6, 7, 8] (fun lv _ _ _ W => ∃ st seen, Hid (RJ w fv F G B0 C lv W st seen)) (fun lv _ _ _ W => rjM w fv F G B0 C lv W)
  case atStart => exact ⟨F, [], by rw [hfv.out]; exact HJ0⟩
  case round =>
    clear HJ0
    obtain ⟨st0, seen0, hJ0⟩ := hrel
    obtain ⟨wq, rfl⟩ : ∃ x, x = wr := ⟨_, rfl⟩
    obtain ⟨st, seen, hJ, hm⟩ := leastOf_spec (P := rjP w fv F G B0 C u1 wq) ⟨_, st0, seen0, hJ0.out, rfl⟩
    clear hJ0
    have hm' := Lib.hid hm
    have HJ := Lib.hid hJ
    obtain ⟨Au, cu, rfl, hu1, hu2⟩ := hJ.own.rep.form
    clear hm hJ
    rcases List.eq_nil_or_concat st with e9 | ⟨st', s, e9⟩
    · subst e9
      obtain ⟨a1, a2, a3, a4, a5, a6, a7⟩ := HJ.out
      have H1 := Lib.hid (And.intro a1.done (And.intro a1.nd (And.intro (fun x hx => a6 x (.inr hx)) (And.intro a3 a4))))
      clear a1 a2 a3 a4 a5 a6 a7 HJ hm'
      go_wp2
      go_ret
      obtain ⟨g1, g2, g3, g4, g5⟩ := H1.out
      exact ⟨seen, rfl, g1, g2, g3, g4, by rw [hfv.out]; exact g5⟩
    · rw [List.concat_eq_append] at e9
      subst e9
      obtain ⟨st, hst9⟩ : ∃ l, l = st' := ⟨_, rfl⟩
      subst hst9
      have hln : (st ++ [s]).length = st.length + 1 := by simp
      obtain ⟨b, off, rfl, u0⟩ := last_at HJ.out.own.rep
      have hsz := HJ.out.szs s (.inl (by simp))
      have hlk := set_look HJ.out.mp (fun x hx => HJ.out.szs x (.inr hx)) hsz
      obtain ⟨n, hn⟩ : ∃ n, (st ++ [s]).length = n := ⟨_, rfl⟩
      rw [hn] at hln hu1 hm' ⊢
      have hstC : n ≤ C := by
        have h1 := HJ.out.le
        unfold reM at h1
        omega
      have e1 : (n : Int) > 0 := by omega
      have e2 : IntKind.i64.wrap ((n : Int) - 1) = (st.length : Int) := by rw [IntKind.wrap_i64]; omega
      have e3 : (0 : Int) ≤ st.length ∧ (st.length : Int) < n := by omega
      have e4 : (st.length : Int) ≤ (cu : Int) := by omega
      have e5 : st.length ≤ cu := by omega
      have hcl : cu ≤ 9223372036854775807 := by unfold maxLen at hu2; omega
      have hspos : 0 < (st ++ [s]).length := by rw [hn]; omega
      have htk : (st ++ [s]).take st.length = st := List.take_left' rfl
      have F1 := Fut.alloc wq (.cells #[] 86)
      have hOn : Nms B0 (wq.alloc (.cells #[] 86)) (.slice (some ⟨b, off, none⟩) st.length cu) st := by
        have h9 := OwnL.takeN (a := st.length) (HJ.out.own.fut RNm.stays F1) (by rw [hn]; omega) hspos
        rwa [htk] at h9
      have HOn := Lib.hid hOn
      have F1h := Lib.hid F1
      clear F1 hOn htk hspos
      by_cases hs : s ∈ seen
      · rw [decide_eq_true hs] at hlk
        have HJ2 := Lib.hid (show RJ w fv F G B0 C (.slice (some ⟨b, off, none⟩) st.length cu) (wq.alloc (.cells #[] 86)) st seen from ⟨HJ.out.inv.skip hs, HOn.out, HJ.out.mp.fut F1h.out, HJ.out.only.trans (Only.fut F1h.out), fun k hk => HJ.out.blk k hk, fun x hx => HJ.out.szs x (hx.imp (List.mem_append_left _) id), Nat.le_trans (Nat.le_of_lt reM_skip) HJ.out.le⟩)
        have hdec := Lib.hid (show reM G st seen < reM G (st ++ [s]) seen from reM_skip)
        clear HJ hs
        go_wp2
        go_roundw
        case rel => exact ⟨st, seen, HJ2⟩
        case measure => exact Nat.lt_of_le_of_lt HJ2.out.m (by rw [hm'.out] at hdec; exact hdec.out)
      · rw [decide_eq_false hs] at hlk
        obtain ⟨w4, hr4, hm4, hg4⟩ := set_add (HJ.out.mp.fut F1h.out) (fun x hx => HJ.out.szs x (.inr hx)) hsz
        have hadd : addF seen s = seen ++ [s] := if_neg hs
        rw [hadd] at hm4
        have O4 : Only (fun k => k = w.heap.size) (wq.alloc (.cells #[] 86)) w4 := Only.grown hg4 fun k hk => (Option.some.inj hk).symm
        have hbs := HOn.out.typed b rfl
        have hbm : w.heap.size ≠ b := by
          obtain ⟨arr, h9⟩ := hbs
          exact map_ne (HJ.out.mp.fut F1h.out) h9
        have hOn4 : Nms B0 w4 (.slice (some ⟨b, off, none⟩) st.length cu) st := HOn.out.only (fun _ _ h => h) O4 (fun k hk e => by
          have hk' : b = k := Option.some.inj hk
          exact hbm (e.symm.trans hk'.symm))
        have OW : Only (fun k => fv.ownBlock = some k ∨ w.heap.size ≤ k) w w4 := (HJ.out.only.trans (Only.fut F1h.out)).trans (O4.mono fun k _ hk => .inr (by omega))
        obtain ⟨gv, g1, g2, g3, g4⟩ := HLk.out s hsz
        have hl4 := g4 w4 OW
        obtain ⟨Ag, cg, rfl, hg1, hg2⟩ := g1.rep.form
        have hys : SlRep 1 maxLen RNm w4 (.slice Ag (sucs G s).length cg) (sucs G s) := (show Nms B w4 (.slice Ag (sucs G s).length cg) (sucs G s) from (g1.fut RNm.stays HF.out).only (fun _ _ h => h) OW g3).rep
        have hdec := Lib.hid (show reM G (st ++ sucs G s) (seen ++ [s]) < reM G (st ++ [s]) seen from reM_take hs)
        have hlen : st.length + (sucs G s).length ≤ C := by
          have h1 := hdec.out
          have h2 := HJ.out.le
          have h3 : (st ++ sucs G s).length ≤ reM G (st ++ sucs G s) (seen ++ [s]) := Nat.le_add_right _ _
          rw [List.length_append] at h3
          omega
        have hB4 : B0 ≤ w4.heap.size := Nat.le_trans HB0.out OW.size
        have HOn4 := Lib.hid hOn4
        have Hys := Lib.hid hys
        have OWh := Lib.hid OW
        have Hm4 := Lib.hid hm4
        have HI2 := Lib.hid (And.intro (HJ.out.inv.take hs) (And.intro HJ.out.blk (And.intro (fun x (hx : x ∈ st ++ sucs G s ∨ x ∈ seen ++ [s]) => show x.size ≤ 140737488351232 from by
          rcases hx with hx | hx
          · rcases List.mem_append.1 hx with q | q
            · exact HJ.out.szs x (.inl (List.mem_append_left _ q))
            · exact g2 x q
          · rcases List.mem_append.1 hx with q | q
            · exact HJ.out.szs x (.inr q)
            · rw [List.mem_singleton] at q; subst q; exact hsz) HJ.out.le)))
        have hbm' := Lib.hid hbm
        clear hOn4 hys OW hm4 hg4 O4 hbs hbm g1 g2 g3 g4 HJ hs HOn
        go_wp2_with (first | (at_builtin; refine wpList_append_LB (R := RNm) (B := B0) (M := maxLen) (xs := st) (ys := sucs G s) (e := 9) (by go_simp) _ _ tVl' rfl Tryz.underlying37 (.string ⟨#[]⟩) 16 infoNm rfl (by decide) RNm.one RNm.keeps rfl rfl HOn4.out Hys.out ?l3 ?m3 ?b3 ?k3))
        case l3 => unfold maxLen; omega
        case m3 => omega
        case b3 => exact hB4
        case k3 =>
        intro v' w' o' g' sn'
        have O5 : Only (fun k => k = b) w4 w' := Only.grown g' fun k hk => (Option.some.inj hk).symm
        have hbb := HI2.out.2.1 b rfl
        have hws := OWh.out.size
        have HJ2 := Lib.hid (show RJ w fv F G B0 C v' w' (st ++ sucs G s) (seen ++ [s]) from ⟨HI2.out.1, o', Hm4.out.kept (O5.block _ Hm4.out.lt hbm'.out), OWh.out.trans (O5.mono fun k _ hk => by rw [hk]; exact hbb), fun k hk => by
          rcases sn' with e | e
          · rw [e] at hk
            exact HI2.out.2.1 k hk
          · have := e k hk
            exact .inr (by omega), HI2.out.2.2.1, Nat.le_trans (Nat.le_of_lt hdec.out) HI2.out.2.2.2⟩)
        clear o' g' sn' O5 hbb hws HI2 Hm4 OWh HOn4 Hys hl4 hr4
        go_wp2
        go_roundw
        case rel => exact ⟨_, _, HJ2⟩
        case measure => exact Nat.lt_of_le_of_lt HJ2.out.m (by rw [hm'.out] at hdec; exact hdec.out)
end Go.Proofs.YtackadhamghblaaGreat
