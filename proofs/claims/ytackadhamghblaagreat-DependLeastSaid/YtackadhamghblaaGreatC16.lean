/- DDraw, TMakesW, Box2 -/
import Derived.Test.YtackadhamghblaaGreatC15
/- depend.draw: the callback. -/
namespace Go.Proofs.YtackadhamghblaaGreat
open Go.RowKit Go.WideMaps Go.Maps
set_option linter.unusedSimpArgs false
set_option linter.unusedVariables false

theorem sucs_push_len {G : Gr} (hn : G.names.Nodup) (s t x : ByteArray) : (sucs (pushG G s t) x).length ≤ (sucs G x).length + 1 := by
  by_cases hx : x ∈ G.names
  · obtain ⟨i, S, hi⟩ := names_at hx
    have h1 : (pushG G s t)[i]? = some (x, if x = s then S ++ [t] else S) := by
      unfold pushG
      rw [List.getElem?_map, hi]
      simp only [Option.map_some]
      split <;> rfl
    rw [sucs_at (by rw [pushG_names]; exact hn) h1, sucs_at hn hi]
    split
    · simp
    · omega
  · rw [sucs_none (by rw [pushG_names]; exact hx)]
    simp
theorem addG_nodup {G : Gr} (hn : G.names.Nodup) (s : ByteArray) : (addG G s).names.Nodup := by
  unfold addG
  split
  · exact hn
  · rename_i h
    unfold Gr.names at hn h ⊢
    rw [List.map_append]
    refine List.nodup_append.2 ⟨hn, by simp, fun a ha b hb e => ?_⟩
    simp at hb
    subst hb; subst e
    exact h ha
theorem sucs_add {G : Gr} (hn : G.names.Nodup) (s x : ByteArray) : sucs (addG G s) x = sucs G x := by
  by_cases hx : x ∈ G.names
  · obtain ⟨i, S, hi⟩ := names_at hx
    have hlt := (List.getElem?_eq_some_iff.1 hi).1
    have h1 : (addG G s)[i]? = some (x, S) := by
      unfold addG
      split
      · exact hi
      · rw [List.getElem?_append_left hlt]; exact hi
    rw [sucs_at (addG_nodup hn s) h1, sucs_at hn hi]
  · rw [sucs_none hx]
    by_cases he : x = s
    · subst he
      have h1 : (addG G x)[G.length]? = some (x, []) := by
        unfold addG
        rw [if_neg hx, List.getElem?_append_right (Nat.le_refl _)]
        simp
      exact sucs_at (addG_nodup hn x) h1
    · refine sucs_none fun h => ?_
      unfold addG at h
      split at h
      · exact hx h
      · unfold Gr.names at h hx
        rw [List.map_append] at h
        rcases List.mem_append.1 h with h | h
        · exact hx h
        · simp at h
          exact he h
structure DrSt (B : Nat) (W : World) (gb rb mb : Nat) (p : ByteArray) (hv bv : Value) (G : Gr) : Prop where
  r : W.heap[rb]? = some (.cells #[.string p, hv, bv] 52 (0, 0))
  g : W.heap[gb]? = some (.cells #[.map (some mb)] tG (0, 0))
  gr : GrI B W mb G
theorem DrSt.fut {B gb rb mb : Nat} {W w' : World} {p : ByteArray} {hv bv : Value} {G : Gr} (h : DrSt B W gb rb mb p hv bv G) (hf : Fut W w') : DrSt B w' gb rb mb p hv bv G := ⟨hf.block h.r, hf.block h.g, h.gr.fut hf⟩
theorem GrI.mapE {B mb : Nat} {W : World} {G : Gr} (h : GrI B W mb G) : ∃ l, MapE strV W mb l := by
  obtain ⟨vs, _, h2, _⟩ := h
  exact ⟨_, h2⟩
theorem GrI.ge {B mb : Nat} {W : World} {G : Gr} (h : GrI B W mb G) : B ≤ mb := by
  obtain ⟨vs, _, _, _, _, _, h6⟩ := h
  exact h6
theorem wpList_mapG {ops : Array Oper} {rest : List Oper} {o : Oper} {a : Act} {Q : Exit → Act → World → Prop} {w w' : World} {b : Nat} {p : ByteArray} {v : Value} (hgd : Region.wanted o (yielded ops a.tmps) = true) (m y z : Operand)
    (ho : o.op = .mapUpdate tG m y z) (hm : a.eval m = .map (some b)) (hy : a.eval y = .string p) (hz : a.eval z = v) (hr : (Instr.mapUpdate tG (.map (some b)) (.string p) v).run Tryz.prog w = .ok () w')
    (hk : wpList Tryz.prog ops Q rest (a.put o.dst undef) w') : wpList Tryz.prog ops Q (o :: rest) a w := by
  refine wpList_of_skip hgd (w' := w') ?_ hk
  unfold execOp
  simp only [ho, hm, hy, hz, hr, Sem.run_bind, Sem.run_pure, Result.andThen_ok]
theorem exec_append_nm {B : Nat} {w : World} {o : Oper} {a : Act} {s x : Operand} {v u : Value} {xs : List ByteArray} {t : ByteArray} (ho : o.op = .call { callee := .builtin .append, args := #[s, x], argTypes := #[tVl', tVl'] }) (hs : a.eval s = v) (hx : a.eval x = u) (hown : Nms B w v xs) (hu : SlRep 1 1 RNm w u [t]) (hl : xs.length ≤ 1000000000) (hB : B ≤ w.heap.size) :
    ∃ v' w', (execOp a.eval o).run Tryz.prog w = .ok (.value v') w' ∧ Nms B w' v' (xs ++ [t]) ∧ w.grownBy w' v.ownBlock ∧ SameOrNew w v v' := by
  obtain ⟨i, hi, hz, hs', hb⟩ := info_parts infoNm
  obtain ⟨v', w', hr, h2, h3, h4⟩ := run_append_listB (P := Tryz.prog) tVl' o.type i (.string ⟨#[]⟩) 16 Tryz.underlying37 hi hz hs' hb rfl (by decide) RNm.one (fun w' cs x hr hg => RNm.keeps w w' _ cs x hr hg hown.typed) hown hu (by simp [maxLen]; omega) (by simp; omega) hB
  refine ⟨v', w', ?_, h2, h3, h4⟩
  unfold execOp
  simp only [ho, resolve, invoke, builtin, Sem.run_bind, Sem.run_pure, Result.andThen_ok, List.map_toArray, List.map_cons, List.map_nil, hs, hx, hr]
theorem exec_append_goal {B : Nat} {w : World} {o : Oper} {a : Act} {s x : Operand} {v u : Value} {xs : List ByteArray} {t : ByteArray} {E : World → Prop} {S : Value → World → Prop} (ho : o.op = .call { callee := .builtin .append, args := #[s, x], argTypes := #[tVl', tVl'] }) (hs : a.eval s = v) (hx : a.eval x = u) (hown : Nms B w v xs) (hu : SlRep 1 1 RNm w u [t]) (hl : xs.length ≤ 1000000000) (hB : B ≤ w.heap.size)
    (h : ∀ v' w', Nms B w' v' (xs ++ [t]) → w.grownBy w' v.ownBlock → SameOrNew w v v' → E w' ∧ S v' w') : ∃ v' w', (execOp a.eval o).run Tryz.prog w = .ok (.value v') w' ∧ E w' ∧ S v' w' := by
  obtain ⟨v', w', e1, e2, e3, e4⟩ := exec_append_nm ho hs hx hown hu hl hB
  exact ⟨v', w', e1, h v' w' e2 e3 e4⟩
theorem nmBlock {w : World} {n : Nat} {s : ByteArray} (h : w.heap[n]? = some (.cells #[.string s] 9 (0, 0))) : SlRep 1 1 RNm w (.slice (some ⟨n, 0, none⟩) 1 1) [s] :=
  ⟨_, 1, rfl, Nat.le_refl _, Nat.le_refl _, fun i y hy => by
    have hi : i = 0 := by
      have := (List.getElem?_eq_some_iff.1 hy).1
      simp at this; omega
    subst hi
    simp at hy
    subst hy
    refine ⟨n, 0, _, rfl, rfl, fun j c hj => ?_, rfl⟩
    rw [show 0 + (0 * 1 + j) = j by omega]
    exact cell_at h j c (by simpa using hj)⟩
set_option maxHeartbeats 4000000 in
set_option maxRecDepth 100000 in
theorem draw1_any {B gb rb mb : Nat} {p : ByteArray} {hv bv : Value} {G : Gr} (z : Lt) (A : Option Addr) (c : Nat) (Al : Option Addr) (l cl : Nat) (Ad : Option Addr) (d cd : Nat) (w : World) (h : DrSt B w gb rb mb p hv bv G) (hB : B ≤ w.heap.size) (hp : p.size ≤ 140737488351232) (hzp : z.p.size ≤ 140737488351232) (hin : p ∈ G.names) (hes : (sucs G p).length ≤ 1000000000) :
    Calls Tryz.prog 38 #[.agg (z.cs (.slice A z.a.length c) (.slice Al l cl) (.slice Ad d cd)).toArray, .pointer (some ⟨gb, 0, none⟩), .pointer (some ⟨rb, 0, none⟩)] w fun e w' => (∃ u, e = .returned u) ∧ DrSt B w' gb rb mb p hv bv (stepG p G z) ∧ Only (fun k => B ≤ k) w w' := by
  have hbx := heap_alloc_new w (.cells (z.cs (.slice A z.a.length c) (.slice Al l cl) (.slice Ad d cd)).toArray 70)
  have k1 := cell_at hbx 1 (.string z.p) rfl
  have hbl := (Array.getElem?_eq_some_iff.1 hbx).1
  generalize hcs : z.cs (.slice A z.a.length c) (.slice Al l cl) (.slice Ad d cd) = cs at *
  have f0 := Fut.alloc w (.cells cs.toArray 70)
  have g1 := h.fut f0
  have x0 := cell_at g1.r 0 (.string p) rfl
  have x1 := cell_at g1.g 0 (.map (some mb)) rfl
  obtain ⟨v, hN, HLk, HPs⟩ := g1.gr.push (t := z.p) hp hzp hin
  obtain ⟨Av, cv, rfl, _, _⟩ := hN.rep.form
  have hs0 := f0.size
  obtain ⟨l9, hm9⟩ := g1.gr.mapE
  have sepb : ∀ {j : Nat} {a : Array Value} {t : TypeId}, (w.alloc (.cells cs.toArray 70)).heap[j]? = some (.cells a t (0, 0)) → t ≠ 9 → ¬ (Value.slice Av (sucs G p).length cv).ownBlock = some j := fun hj ht e => by
    obtain ⟨arr, h9⟩ := hN.typed _ e
    exact other_block hj h9 ht rfl
  have sr := sepb g1.r (by decide)
  have sg := sepb g1.g (by decide)
  have sb := sepb hbx (by decide)
  have mr := map_ne hm9 g1.r
  have mg := map_ne hm9 g1.g
  have mx := map_ne hm9 hbx
  clear hcs hbx hm9 sepb
  have HL := Lib.hid HLk
  have HP := Lib.hid HPs
  have HN := Lib.hid hN
  have G1 := Lib.hid g1
  have F0 := Lib.hid f0
  clear HLk HPs hN g1 f0 h
  go_enter Tryz.func38, Tryz.ntmps38
  go_wp2_with fail
  letI i1 : On.Mut := On.Mut.one 11 (Only (fun k => (Value.slice Av (sucs G p).length cv).ownBlock = some k)) Only.fut Only.trans
  refine On.wp_graph 12 [.d, .d, .d, .d, .d, .d, .d, .d, .d, .d, .r (fun u W => ∃ n, (w.alloc (.cells cs.toArray 70)).heap.size ≤ n ∧ u = .slice (some ⟨n, 0, none⟩) 1 1 ∧ W.heap[n]? = some (.cells #[.string z.p] 9 (0, 0))), .r (fun u W => Nms B W u (sucs G p ++ [z.p]) ∧ ∀ k, u.ownBlock = some k → (Value.slice Av (sucs G p).length cv).ownBlock = some k ∨ (w.alloc (.cells cs.toArray 70)).heap.size ≤ k)] (by kernel_rfl) (by kernel_rfl) (by kernel_rfl) (.inr fun _ _ => trivial) On.one_dep ?_
  simp only [List.take_succ_cons, List.take_zero, List.drop_succ_cons, List.drop_zero, Exs]
  iterate 10 apply Exists.intro
  apply On.Run.valG (.inr fun _ _ => trivial) (wanted_none rfl _)
  · intro w1 h1 hk
    have hg : Only (fun k => (Value.slice Av (sucs G p).length cv).ownBlock = some k) (w.alloc (.cells cs.toArray 70)) w1 := (Only.fut (Fut.drew _)).trans (by first | exact h1 | exact Only.fut h1); have q0 := hg.cell x0 sr; have q1 := hg.cell x1 sg; have q2 := hg.cell k1 sb; have q3 := HL.out _ hg
    go_simp; rfl
  simp only [Act.put, List.setIfInBounds_toArray, List.set_cons_succ, List.set_cons_zero, List.nil_append, List.cons_append]
  apply On.Run.valG (.inr fun _ _ => trivial) (wanted_none rfl _)
  · intro w1 h1 hk
    have hg : Only (fun k => (Value.slice Av (sucs G p).length cv).ownBlock = some k) (w.alloc (.cells cs.toArray 70)) w1 := (Only.fut (Fut.drew _)).trans (by first | exact h1 | exact Only.fut h1); have q0 := hg.cell x0 sr; have q1 := hg.cell x1 sg; have q2 := hg.cell k1 sb; have q3 := HL.out _ hg
    go_simp; rfl
  simp only [Act.put, List.setIfInBounds_toArray, List.set_cons_succ, List.set_cons_zero, List.nil_append, List.cons_append]
  apply On.Run.valG (.inr fun _ _ => trivial) (wanted_none rfl _)
  · intro w1 h1 hk
    have hg : Only (fun k => (Value.slice Av (sucs G p).length cv).ownBlock = some k) (w.alloc (.cells cs.toArray 70)) w1 := (Only.fut (Fut.drew _)).trans (by first | exact h1 | exact Only.fut h1); have q0 := hg.cell x0 sr; have q1 := hg.cell x1 sg; have q2 := hg.cell k1 sb; have q3 := HL.out _ hg
    go_simp; rfl
  simp only [Act.put, List.setIfInBounds_toArray, List.set_cons_succ, List.set_cons_zero, List.nil_append, List.cons_append]
  apply On.Run.valG (.inr fun _ _ => trivial) (wanted_none rfl _)
  · intro w1 h1 hk
    have hg : Only (fun k => (Value.slice Av (sucs G p).length cv).ownBlock = some k) (w.alloc (.cells cs.toArray 70)) w1 := (Only.fut (Fut.drew _)).trans (by first | exact h1 | exact Only.fut h1); have q0 := hg.cell x0 sr; have q1 := hg.cell x1 sg; have q2 := hg.cell k1 sb; have q3 := HL.out _ hg
    go_simp; rfl
  simp only [Act.put, List.setIfInBounds_toArray, List.set_cons_succ, List.set_cons_zero, List.nil_append, List.cons_append]
  apply On.Run.valG (.inr fun _ _ => trivial) (wanted_none rfl _)
  · intro w1 h1 hk
    have hg : Only (fun k => (Value.slice Av (sucs G p).length cv).ownBlock = some k) (w.alloc (.cells cs.toArray 70)) w1 := (Only.fut (Fut.drew _)).trans (by first | exact h1 | exact Only.fut h1); have q0 := hg.cell x0 sr; have q1 := hg.cell x1 sg; have q2 := hg.cell k1 sb; have q3 := HL.out _ hg
    go_simp; rfl
  simp only [Act.put, List.setIfInBounds_toArray, List.set_cons_succ, List.set_cons_zero, List.nil_append, List.cons_append]
  apply On.Run.valG (.inr fun _ _ => trivial) (wanted_none rfl _)
  · intro w1 h1 hk
    have hg : Only (fun k => (Value.slice Av (sucs G p).length cv).ownBlock = some k) (w.alloc (.cells cs.toArray 70)) w1 := (Only.fut (Fut.drew _)).trans (by first | exact h1 | exact Only.fut h1); have q0 := hg.cell x0 sr; have q1 := hg.cell x1 sg; have q2 := hg.cell k1 sb; have q3 := HL.out _ hg
    go_simp; rfl
  simp only [Act.put, List.setIfInBounds_toArray, List.set_cons_succ, List.set_cons_zero, List.nil_append, List.cons_append]
  apply On.Run.valG (.inr fun _ _ => trivial) (wanted_none rfl _)
  · intro w1 h1 hk
    have hg : Only (fun k => (Value.slice Av (sucs G p).length cv).ownBlock = some k) (w.alloc (.cells cs.toArray 70)) w1 := (Only.fut (Fut.drew _)).trans (by first | exact h1 | exact Only.fut h1); have q0 := hg.cell x0 sr; have q1 := hg.cell x1 sg; have q2 := hg.cell k1 sb; have q3 := HL.out _ hg
    go_simp; rfl
  simp only [Act.put, List.setIfInBounds_toArray, List.set_cons_succ, List.set_cons_zero, List.nil_append, List.cons_append]
  apply On.Run.valG (.inr fun _ _ => trivial) (wanted_none rfl _)
  · intro w1 h1 hk
    have hg : Only (fun k => (Value.slice Av (sucs G p).length cv).ownBlock = some k) (w.alloc (.cells cs.toArray 70)) w1 := (Only.fut (Fut.drew _)).trans (by first | exact h1 | exact Only.fut h1); have q0 := hg.cell x0 sr; have q1 := hg.cell x1 sg; have q2 := hg.cell k1 sb; have q3 := HL.out _ hg
    go_simp; rfl
  simp only [Act.put, List.setIfInBounds_toArray, List.set_cons_succ, List.set_cons_zero, List.nil_append, List.cons_append]
  apply On.Run.valG (.inr fun _ _ => trivial) (wanted_none rfl _)
  · intro w1 h1 hk
    have hg : Only (fun k => (Value.slice Av (sucs G p).length cv).ownBlock = some k) (w.alloc (.cells cs.toArray 70)) w1 := (Only.fut (Fut.drew _)).trans (by first | exact h1 | exact Only.fut h1); have q0 := hg.cell x0 sr; have q1 := hg.cell x1 sg; have q2 := hg.cell k1 sb; have q3 := HL.out _ hg
    go_simp; rfl
  simp only [Act.put, List.setIfInBounds_toArray, List.set_cons_succ, List.set_cons_zero, List.nil_append, List.cons_append]
  apply On.Run.valG (.inr fun _ _ => trivial) (wanted_none rfl _)
  · intro w1 h1 hk
    have hg : Only (fun k => (Value.slice Av (sucs G p).length cv).ownBlock = some k) (w.alloc (.cells cs.toArray 70)) w1 := (Only.fut (Fut.drew _)).trans (by first | exact h1 | exact Only.fut h1); have q0 := hg.cell x0 sr; have q1 := hg.cell x1 sg; have q2 := hg.cell k1 sb; have q3 := HL.out _ hg
    go_simp; rfl
  simp only [Act.put, List.setIfInBounds_toArray, List.set_cons_succ, List.set_cons_zero, List.nil_append, List.cons_append]
  apply On.Run.valR (.inr fun _ _ => trivial) (wanted_none rfl _) (by intro v w w' hf hs; exact (by obtain ⟨n, a1, a2, a3⟩ := hs; exact ⟨n, a1, a2, (show Only (fun k => (Value.slice Av (sucs G p).length cv).ownBlock = some k) _ _ from by first | exact hf | exact Only.fut hf).keeps a3 (fun e => by have := (HN.out.block n e).2; omega)⟩))
  · intro w1 h1 hk
    have hg : Only (fun k => (Value.slice Av (sucs G p).length cv).ownBlock = some k) (w.alloc (.cells cs.toArray 70)) w1 := (Only.fut (Fut.drew _)).trans (by first | exact h1 | exact Only.fut h1); have q0 := hg.cell x0 sr; have q1 := hg.cell x1 sg; have q2 := hg.cell k1 sb; have q3 := HL.out _ hg
    go_simp; exact ⟨_, _, ⟨rfl, rfl⟩, Fut.alloc _ _, _, by have := hg.size; simpa using this, rfl, heap_alloc_new _ _⟩
  intro v10
  simp only [Act.put, List.setIfInBounds_toArray, List.set_cons_succ, List.set_cons_zero, List.nil_append, List.cons_append]
  apply On.Run.mutVR (.inr fun _ _ => trivial) (wanted_none rfl _) (by intro v w w' hf hs; exact ⟨hs.1.fut RNm.stays (show Fut _ _ from hf), hs.2⟩)
  · intro w1 h1 hk
    have f10 := Facts.get hk 0 rfl (by kernel_rfl)
    have hg : Only (fun k => (Value.slice Av (sucs G p).length cv).ownBlock = some k) (w.alloc (.cells cs.toArray 70)) w1 := (Only.fut (Fut.drew _)).trans (by first | exact h1 | exact Only.fut h1); have q0 := hg.cell x0 sr; have q1 := hg.cell x1 sg; have q2 := hg.cell k1 sb; have q3 := HL.out _ hg
    obtain ⟨n, a1, rfl, a3⟩ := f10; refine exec_append_goal (B := B) (t := z.p) (xs := sucs G p) (v := .slice Av (sucs G p).length cv) rfl rfl rfl (HN.out.fut RNm.stays ((Fut.drew _).trans h1)) (nmBlock a3) (by omega) (by have := hg.size; omega) (fun v' w' e2 e3 e4 => ⟨On.Eff.one (Only.grown e3 fun k hk => hk), e2, fun k hk => ?_⟩); rcases e4 with e | e; exact .inl (e ▸ hk); exact .inr (Nat.le_trans hg.size (e k hk))
  intro v11
  simp only [Act.put, List.setIfInBounds_toArray, List.set_cons_succ, List.set_cons_zero, List.nil_append, List.cons_append]
  apply On.Run.done
  intro w2 h2 hk hJ
  obtain ⟨f10, f11, _⟩ := hk
  obtain ⟨hN3, hnew⟩ := f11
  have hO2 : Only (fun k => (Value.slice Av (sucs G p).length cv).ownBlock = some k) (w.alloc (.cells cs.toArray 70)) w2 := (Only.fut (Fut.drew _)).trans (show Only (fun k => (Value.slice Av (sucs G p).length cv).ownBlock = some k) _ _ from h2)
  obtain ⟨w3, hr, hG3, hO3⟩ := HP.out w2 v11 hO2 hN3 hnew
  obtain ⟨A8, c8, rfl, _, _⟩ := hN3.rep.form
  have gd := G1.out
  have b1 := hO3.keeps gd.r (by rintro (e | e); exact mr e.symm; exact sr e)
  have b2 := hO3.keeps gd.g (by rintro (e | e); exact mg e.symm; exact sg e)
  have b3 := hO3.cell k1 (by rintro (e | e); exact mx e.symm; exact sb e)
  have c2 := cell_at b2 0 (.map (some mb)) rfl
  have OA : Only (fun k => B ≤ k) w w3 := (Only.fut F0.out).trans (hO3.mono fun k _ hk => by
    rcases hk with hk | hk
    · rw [hk]; exact gd.gr.ge
    · exact (HN.out.block k hk).1)
  replace OA := Lib.hid OA
  have HB1 := Lib.hid b1
  have HB2 := Lib.hid b2
  obtain ⟨G2, hG2⟩ : ∃ G2, pushG G p z.p = G2 := ⟨_, rfl⟩
  have hst : stepG p G z = addG G2 z.p := by unfold stepG; rw [hG2]
  replace hst := Lib.hid hst
  rw [hG2] at hG3
  obtain ⟨v2, hN2, hL2⟩ := hG3.look hzp
  have hL2' := (hL2 w3 (Fut.refl _)).2
  obtain ⟨A9, c9, rfl, _, _⟩ := hN2.rep.form
  clear i1 h2 hO2 hO3 hnew f10 hN3 gd b1 b2 k1 x0 x1 HP HL HN hL2 hN2 sr sg sb mr mg mx G1 F0 hJ
  refine wpList_mapG (wanted_none rfl _) _ _ _ rfl rfl rfl rfl hr ?_
  clear hr
  by_cases hin2 : z.p ∈ G2.names
  · have ha : addG G2 z.p = G2 := by unfold addG; rw [if_pos hin2]
    rw [decide_eq_true hin2] at hL2'
    have HG3 := Lib.hid (show DrSt B w3 gb rb mb p hv bv (stepG p G z) from by rw [hst.out, ha]; exact ⟨HB1.out, HB2.out, hG3⟩)
    clear hG3 hin2 ha hst hG2
    go_wp2
    go_end0
    exact ⟨⟨_, rfl⟩, HG3.out, OA.out⟩
  · rw [decide_eq_false hin2] at hL2'
    obtain ⟨w4, hr4, hg4, hG4⟩ := hG3.add hzp hin2
    obtain ⟨l9, hm9⟩ := hG3.mapE
    have O4 : Only (fun k => k = mb) w3 w4 := Only.grown hg4 fun k hk => (Option.some.inj hk).symm
    have HD := Lib.hid (show DrSt B w4 gb rb mb p hv bv (stepG p G z) from by rw [hst.out]; exact ⟨O4.keeps HB1.out fun e => map_ne hm9 HB1.out e.symm, O4.keeps HB2.out fun e => map_ne hm9 HB2.out e.symm, hG4⟩)
    have OB := Lib.hid (OA.out.trans (O4.mono fun k _ hk => by rw [hk]; exact hG3.ge))
    clear O4 hm9 hg4 hG4 hG3 hin2 hst hG2 OA
    go_wp2
    go_end0
    exact ⟨⟨_, rfl⟩, HD.out, OB.out⟩
end Go.Proofs.YtackadhamghblaaGreat
/- check.Makes: the walk. -/
namespace Go.Proofs.YtackadhamghblaaGreat
open Go.RowKit Go.WideMaps Go.Maps
set_option linter.unusedSimpArgs false
set_option linter.unusedVariables false

theorem LtC.rlt {w : World} {x : Lt} {A : Option Addr} {n c : Nat} {A1 : Option Addr} {n1 c1 : Nat} {A2 : Option Addr} {n2 c2 : Nat} (h : LtC w x (.slice A n c) (.slice A1 n1 c1) (.slice A2 n2 c2)) : RLt w (x.cs (.slice A n c) (.slice A1 n1 c1) (.slice A2 n2 c2)) x :=
  ⟨_, x.l.cs (.slice A1 n1 c1), x.d.cs (.slice A2 n2 c2), rfl, rfl, rfl, h.kw, h.rw', h.pw, h.args, h.left, h.right⟩
theorem filt_vs : ∀ (l : List Lt) (p : Lt → Bool), ((l.filter p).flatMap Lt.vs).length ≤ (l.flatMap Lt.vs).length
  | [], p => by simp
  | x :: r, p => by
    have h1 := filt_vs r p
    rw [List.filter_cons]
    split
    · rw [List.flatMap_cons, List.flatMap_cons, List.length_append, List.length_append]; omega
    · rw [List.flatMap_cons, List.length_append]; omega
def isP (x : Lt) : Bool := decide (x.k = 1)
set_option maxHeartbeats 4000000 in
set_option maxRecDepth 100000 in
theorem makes_any (x : Ru) (Ah Ab : Option Addr) (ch cb : Nat) (w : World) (hp : x.p.size ≤ 140737488351232) (h1 : SlRep 5 2513169434916 RAr w (.slice Ah x.h.length ch) x.h) (h2 : SlRep 16 651562446089 RLt w (.slice Ab x.b.length cb) x.b) (hl : x.hs.length + x.bs.length ≤ 400000000) :
    Calls Tryz.prog 17 #[.agg #[.string x.p, .slice Ah x.h.length ch, .slice Ab x.b.length cb]] w fun e w' => e = .returned (.bool x.makes) ∧ Fut w w' := by
  have HR := Lib.hid (fun W (hW : Fut w W) => rule_any x Ah Ab ch cb W hp (h1.fut RAr.stays hW) (h2.fut RLt.stays hW) hl)
  have HV := Lib.hid (fun W (hW : Fut w W) => ruleVars_any ⟨⟨#[]⟩, x.h, []⟩ Ah none ch 0 W (h1.fut RAr.stays hW) SlRep.nil (by
    have h9 : (Ru.hs ⟨⟨#[]⟩, x.h, []⟩).length = x.hs.length := rfl
    have h8 : (Ru.bs ⟨⟨#[]⟩, x.h, []⟩).length = 0 := rfl
    omega))
  have hve : (Ru.vars ⟨⟨#[]⟩, x.h, []⟩) = ddVs x.hs := by
    show ddVs (x.hs ++ []) = _
    rw [List.append_nil]
  rw [hve] at HV
  have hbs := b_le_bs x.b
  have hbl : x.b.length ≤ 400000000 := by unfold Ru.bs at hl; omega
  have hbv := Lib.hid (show (x.b.flatMap Lt.vs).length ≤ 400000000 by unfold Ru.bs at hl; omega)
  have HO := Lib.hid (show ∀ v ∈ ddVs x.hs, v.size ≤ 140737488351232 from fun v hv => heads_ok h1 v (ddVs_mem hv))
  obtain ⟨b, hb⟩ : ∃ b, x.makes = b := ⟨_, rfl⟩
  rw [hb]
  unfold Ru.makes Ru.posB at hb
  obtain ⟨hv9, hhv⟩ : ∃ v, ddVs x.hs = v := ⟨_, rfl⟩
  rw [hhv] at HV HO hb
  obtain ⟨er, her⟩ : ∃ e, x.errno = e := ⟨_, rfl⟩
  rw [her] at HR hb
  have H2 := Lib.hid h2
  clear h1 h2 hl hbs hve hhv her
  obtain ⟨p, xh, xb⟩ := x
  dsimp only at *
  generalize xh.length = n at *
  have hbx := heap_alloc_new w (.cells #[.string p, .slice Ah n ch, .slice Ab xb.length cb] 52)
  have f0 := Fut.alloc w (.cells #[.string p, .slice Ah n ch, .slice Ab xb.length cb] 52)
  by_cases he : er = 0
  rotate_left
  · obtain rfl : b = false := by rw [← hb]; simp [he]
    clear hb
    go_enter Tryz.func17, Tryz.ntmps17
    go_wp2_with fail
    refine (HR.out _ f0).mono ?_
    rintro e w1 ⟨rfl, f1⟩
    go_wp2
    go_ret
    exact ⟨rfl, f0.trans f1⟩
  subst he
  replace hb := Lib.hid (show (xb.any Lt.works && !allIn (limitsB (xb.filter isP)) hv9) = b by rw [← hb]; rfl)
  go_enter Tryz.func17, Tryz.ntmps17
  go_wp2_with fail
  refine (HR.out _ f0).mono ?_
  rintro e w1 ⟨rfl, f1⟩
  have F1 := Lib.hid (f0.trans f1)
  have c1 := cell_at (f1.block hbx) 1 (.slice Ah n ch) rfl
  have c2 := cell_at (f1.block hbx) 2 (.slice Ab xb.length cb) rfl
  have C1 := Lib.hid c1
  clear f0 f1 hbx HR
  go_wp2_with fail
  clear c1 c2
  go_loopw [3, 4, 13] (fun u ws i wr => ∃ k : Nat, k ≤ xb.length ∧ i = .int .i64 k ∧ ws = .bool ((xb.take k).any Lt.works) ∧ Hid (OwnL 16 w1.heap.size 70 (RL0 w1) wr u ((xb.take k).filter isP)) ∧ Hid (Fut w1 wr)) (fun _ _ i _ => xb.length - (intOf i).toNat)
  case atStart => exact ⟨0, Nat.zero_le _, rfl, rfl, Lib.hid OwnL.nil, Lib.hid (Fut.refl _)⟩
  case round =>
    obtain ⟨k, hk, rfl, rfl, hI, hF⟩ := hrel
    by_cases hlt : k < xb.length
    · have hltI : (k : Int) < xb.length := by omega
      have e0 : (0 : Int) ≤ k ∧ (k : Int) < xb.length := by omega
      obtain ⟨b', off, A', c2, Al, l', cl, Ad, d', cd, rfl, hcs, _, _, g3⟩ := lt_at (H2.out.fut RLt.stays F1.out) hlt
      have hfl := Lib.hid (show (xb.take (k + 1)).filter isP = (xb.take k).filter isP ++ (if isP xb[k] = true then [xb[k]] else []) by
        rw [List.take_succ_eq_append_getElem hlt, List.filter_append]
        cases h : isP xb[k] <;> simp [h])
      have han : (xb.take (k + 1)).any Lt.works = ((xb.take k).any Lt.works || xb[k].works) := by
        rw [List.take_succ_eq_append_getElem hlt, List.any_append]
        simp
      have hfn := List.length_filter_le isP (xb.take k)
      rw [List.length_take] at hfn
      generalize xb[k] = z at *
      have hrl := Lib.hid g3.rlt
      have hcs9 := Lib.hid (fun j v hj => hF.out.cell (hcs j v hj))
      obtain ⟨G, hG⟩ : ∃ G, (xb.take k).filter isP = G := ⟨_, rfl⟩
      obtain ⟨d0, hd0⟩ : ∃ d, (xb.take k).any Lt.works = d := ⟨_, rfl⟩
      rw [hG] at hfl hI hfn
      rw [hd0] at han ⊢
      clear hG hd0 hcs g3
      obtain ⟨wb, hwb⟩ : ∃ W, W = wr.alloc (.cells (z.cs (.slice A' z.a.length c2) (.slice Al l' cl) (.slice Ad d' cd)).toArray 70) := ⟨_, rfl⟩
      have f0 : Fut wr wb := by rw [hwb]; exact Fut.alloc _ _
      have hbx : wb.heap[wr.heap.size]? = some (.cells (z.cs (.slice A' z.a.length c2) (.slice Al l' cl) (.slice Ad d' cd)).toArray 70 (0, 0)) := by rw [hwb]; exact heap_alloc_new _ _
      replace hwb := Lib.hid hwb
      have hone := Lt.cs_one z A' z.a.length c2 Al l' cl Ad d' cd
      have k0 := cell_at hbx 0 (.int .i8 z.k) rfl
      have k4 := cell_at hbx 4 (.int .i8 z.l.op) rfl
      have k10 := cell_at hbx 10 (.int .i8 z.d.op) rfl
      have hrange := Lib.hid (show ∀ j v, (z.cs (.slice A' z.a.length c2) (.slice Al l' cl) (.slice Ad d' cd))[j]? = some v → wb.cell? ⟨wr.heap.size, 0 + j, none⟩ = some v from fun j v hj => by
        rw [Nat.zero_add]
        exact cell_at hbx j v (by simpa using hj))
      have hIb := Lib.hid (hI.out.fut RL0.stays f0)
      have hFb := Lib.hid (hF.out.trans f0)
      have hBz := hFb.out.size
      clear f0 hbx hI hF
      by_cases ek : z.k = 1
      · have hw0 : z.works = false := by unfold Lt.works; rw [ek]; rfl
        have hp0 : isP z = true := by unfold isP; rw [ek]; rfl
        rw [if_pos hp0] at hfl
        rw [hw0, Bool.or_false] at han
        obtain ⟨Au, cu, rfl, _, _⟩ := hIb.out.rep.form
        clear hw0 hp0
        replace han := Lib.hid han
        go_wp2_with (first | (refine wpList_rangeBox (z.cs (.slice A' z.a.length c2) (.slice Al l' cl) (.slice Ad d' cd)) rfl rfl rfl rfl rfl rfl rfl hcs9.out Tryz.underlying70 infoLt rfl hone rfl rfl hwb.out.symm ?_) | (refine wpList_load_mid rfl _ _ rfl _ _ rfl (z.cs (.slice A' z.a.length c2) (.slice Al l' cl) (.slice Ad d' cd)) _ hrange.out Tryz.underlying70 rfl infoLtS ?_) | (refine wpList_slice1 (cs := z.cs (.slice A' z.a.length c2) (.slice Al l' cl) (.slice Ad d' cd)) rfl _ rfl rfl Tryz.underlying50 infoLtF rfl rfl (by decide) (by decide) ?_) | (at_builtin; refine wpList_append_LB (R := RL0 w1) (B := w1.heap.size) (M := 1) (xs := G) (ys := [z]) (e := 70) (by go_simp) _ _ 50 rfl Tryz.underlying50 (.agg #[.int .i8 0, .string ⟨#[]⟩, .slice none 0 0, .int .i8 0, .int .i8 0, .string ⟨#[]⟩, .int .i8 0, .int .i64 0, .string ⟨#[]⟩, .slice none 0 0, .int .i8 0, .string ⟨#[]⟩, .int .i8 0, .int .i64 0, .string ⟨#[]⟩, .slice none 0 0]) 216 infoLtF rfl (by decide) RL0.one RL0.keeps rfl rfl (hIb.out.fut RL0.stays (Fut.alloc _ _)) (slOne _ (z.cs (.slice A' z.a.length c2) (.slice Al l' cl) (.slice Ad d' cd)) z _ rfl hrl.out) ?l3 ?l4 ?b3 ?k3))
        case l3 => simp [maxLen]; omega
        case l4 => simp; omega
        case b3 => simp; omega
        case k3 =>
        intro v' w' o' g' sn'
        have HI := Lib.hid (show OwnL 16 w1.heap.size 70 (RL0 w1) w' v' ((xb.take (k + 1)).filter isP) by rw [hfl.out]; exact o')
        have HF := Lib.hid ((hFb.out.trans (Fut.alloc _ _)).grown g' (fun k hk => (hIb.out.block k hk).1))
        clear o' g' sn'
        go_wp2
        go_roundw
        case rel => exact ⟨k + 1, by omega, by go_num, by rw [han.out], HI, HF⟩
        case measure => simp [intOf] <;> omega
      · have hp0 : ¬ isP z = true := by unfold isP; simpa using ek
        rw [if_neg hp0, List.append_nil] at hfl
        have HI := Lib.hid (show OwnL 16 w1.heap.size 70 (RL0 w1) wb u3 ((xb.take (k + 1)).filter isP) by rw [hfl.out]; exact hIb.out)
        clear hp0
        by_cases e3 : z.k = 3
        · cases d0
          · by_cases el : z.l.op = 0
            · by_cases ed : z.d.op = 0
              · have hw0 : z.works = false := by unfold Lt.works; rw [e3, el, ed]; rfl
                rw [hw0] at han
                replace han := Lib.hid (show (xb.take (k + 1)).any Lt.works = false from han)
                clear hw0
                go_wp2_with (first | (refine wpList_rangeBox (z.cs (.slice A' z.a.length c2) (.slice Al l' cl) (.slice Ad d' cd)) rfl rfl rfl rfl rfl rfl rfl hcs9.out Tryz.underlying70 infoLt rfl hone rfl rfl hwb.out.symm ?_))
                go_roundw
                case rel => exact ⟨k + 1, by omega, by go_num, by rw [han.out], HI, hFb⟩
                case measure => simp [intOf] <;> omega
              · have hw0 : z.works = true := by unfold Lt.works; rw [e3, el, decide_eq_false ed]; rfl
                rw [hw0] at han
                replace han := Lib.hid (show (xb.take (k + 1)).any Lt.works = true from han)
                clear hw0
                go_wp2_with (first | (refine wpList_rangeBox (z.cs (.slice A' z.a.length c2) (.slice Al l' cl) (.slice Ad d' cd)) rfl rfl rfl rfl rfl rfl rfl hcs9.out Tryz.underlying70 infoLt rfl hone rfl rfl hwb.out.symm ?_))
                go_roundw
                case rel => exact ⟨k + 1, by omega, by go_num, by rw [han.out]; simp [ed], HI, hFb⟩
                case measure => simp [intOf] <;> omega
            · have hw0 : z.works = true := by unfold Lt.works; rw [e3, decide_eq_false el]; rfl
              rw [hw0] at han
              replace han := Lib.hid (show (xb.take (k + 1)).any Lt.works = true from han)
              clear hw0
              go_wp2_with (first | (refine wpList_rangeBox (z.cs (.slice A' z.a.length c2) (.slice Al l' cl) (.slice Ad d' cd)) rfl rfl rfl rfl rfl rfl rfl hcs9.out Tryz.underlying70 infoLt rfl hone rfl rfl hwb.out.symm ?_))
              go_roundw
              case rel => exact ⟨k + 1, by omega, by go_num, by rw [han.out], HI, hFb⟩
              case measure => simp [intOf] <;> omega
          · replace han := Lib.hid (show (xb.take (k + 1)).any Lt.works = true from han.trans (Bool.true_or _))
            go_wp2_with (first | (refine wpList_rangeBox (z.cs (.slice A' z.a.length c2) (.slice Al l' cl) (.slice Ad d' cd)) rfl rfl rfl rfl rfl rfl rfl hcs9.out Tryz.underlying70 infoLt rfl hone rfl rfl hwb.out.symm ?_))
            go_roundw
            case rel => exact ⟨k + 1, by omega, by go_num, by rw [han.out], HI, hFb⟩
            case measure => simp [intOf] <;> omega
        · have hw0 : z.works = false := by unfold Lt.works; rw [decide_eq_false e3]; rfl
          rw [hw0, Bool.or_false] at han
          replace han := Lib.hid han
          clear hw0
          go_wp2_with (first | (refine wpList_rangeBox (z.cs (.slice A' z.a.length c2) (.slice Al l' cl) (.slice Ad d' cd)) rfl rfl rfl rfl rfl rfl rfl hcs9.out Tryz.underlying70 infoLt rfl hone rfl rfl hwb.out.symm ?_))
          go_roundw
          case rel => exact ⟨k + 1, by omega, by go_num, by rw [han.out], HI, hFb⟩
          case measure => simp [intOf] <;> omega
    · obtain rfl : k = xb.length := by omega
      rw [List.take_length] at hI ⊢
      have hfl := Lib.hid (List.length_filter_le isP xb)
      have hfv := Lib.hid (filt_vs xb isP)
      obtain ⟨G, hG⟩ : ∃ G, xb.filter isP = G := ⟨_, rfl⟩
      obtain ⟨d0, hd0⟩ : ∃ d, xb.any Lt.works = d := ⟨_, rfl⟩
      rw [hG] at hI hb hfl hfv
      rw [hd0] at hb ⊢
      clear hG hd0
      have k1 := hF.out.cell C1.out
      have F2 := Lib.hid (F1.out.trans hF.out)
      obtain ⟨Au, cu, rfl, _, _⟩ := hI.out.rep.form
      cases d0
      · obtain rfl : b = false := hb.out.symm.trans (Bool.false_and _)
        go_wp2_with fail
        refine wp_graph 12 [.d, .d, .d, .d, .d, .d, .d, .d, .d, .d, .d, .d] (by kernel_rfl) (by kernel_rfl) (by kernel_rfl) ?_
        simp only [List.take_succ_cons, List.take_zero, List.drop_succ_cons, List.drop_zero, Exs]
        iterate 12 apply Exists.intro
        apply Run.valG (wanted_none rfl _)
        · intro w1 h1 hk
          have hcw := fun b o => Below.cell (p := ⟨b, o, none⟩) h1
          go_simp; rfl
        simp only [Act.put, List.setIfInBounds_toArray, List.set_cons_succ, List.set_cons_zero, List.nil_append, List.cons_append]
        apply Run.valG (wanted_none rfl _)
        · intro w1 h1 hk
          have hcw := fun b o => Below.cell (p := ⟨b, o, none⟩) h1
          go_simp; rfl
        simp only [Act.put, List.setIfInBounds_toArray, List.set_cons_succ, List.set_cons_zero, List.nil_append, List.cons_append]
        apply Run.skip (by first | (go_simp; done) | (go_simp; exact fun h => nomatch h))
        simp only [Act.put, List.setIfInBounds_toArray, List.set_cons_succ, List.set_cons_zero, List.nil_append, List.cons_append]
        apply Run.skip (by first | (go_simp; done) | (go_simp; exact fun h => nomatch h))
        simp only [Act.put, List.setIfInBounds_toArray, List.set_cons_succ, List.set_cons_zero, List.nil_append, List.cons_append]
        apply Run.skip (by first | (go_simp; done) | (go_simp; exact fun h => nomatch h))
        simp only [Act.put, List.setIfInBounds_toArray, List.set_cons_succ, List.set_cons_zero, List.nil_append, List.cons_append]
        apply Run.skip (by first | (go_simp; done) | (go_simp; exact fun h => nomatch h))
        simp only [Act.put, List.setIfInBounds_toArray, List.set_cons_succ, List.set_cons_zero, List.nil_append, List.cons_append]
        apply Run.skip (by first | (go_simp; done) | (go_simp; exact fun h => nomatch h))
        simp only [Act.put, List.setIfInBounds_toArray, List.set_cons_succ, List.set_cons_zero, List.nil_append, List.cons_append]
        apply Run.skip (by first | (go_simp; done) | (go_simp; exact fun h => nomatch h))
        simp only [Act.put, List.setIfInBounds_toArray, List.set_cons_succ, List.set_cons_zero, List.nil_append, List.cons_append]
        apply Run.skip (by first | (go_simp; done) | (go_simp; exact fun h => nomatch h))
        simp only [Act.put, List.setIfInBounds_toArray, List.set_cons_succ, List.set_cons_zero, List.nil_append, List.cons_append]
        apply Run.skip (by first | (go_simp; done) | (go_simp; exact fun h => nomatch h))
        simp only [Act.put, List.setIfInBounds_toArray, List.set_cons_succ, List.set_cons_zero, List.nil_append, List.cons_append]
        apply Run.valG (wanted_none rfl _)
        · intro w1 h1 hk
          have hcw := fun b o => Below.cell (p := ⟨b, o, none⟩) h1
          go_simp; rfl
        simp only [Act.put, List.setIfInBounds_toArray, List.set_cons_succ, List.set_cons_zero, List.nil_append, List.cons_append]
        apply Run.valG (wanted_none rfl _)
        · intro w1 h1 hk
          have hcw := fun b o => Below.cell (p := ⟨b, o, none⟩) h1
          go_simp; rfl
        simp only [Act.put, List.setIfInBounds_toArray, List.set_cons_succ, List.set_cons_zero, List.nil_append, List.cons_append]
        apply Run.done
        intro w2 h2 hk
        clear hk
        have F3 := Lib.hid (F2.out.trans ((Fut.drew _).trans h2))
        clear h2
        go_wp2
        go_ret
        exact ⟨rfl, F3.out⟩
      · have HL := Lib.hid (fun W (hW : Fut wr W) => limits_any Au cu G W (((hI.out.fut RL0.stays hW).rep.imp fun cs x hx => RLt.stays _ _ _ _ (hF.out.trans hW) hx)) (by unfold maxLen; omega) (by have := hfl.out; omega) (by have := hfv.out; have := hbv.out; omega))
        obtain ⟨a, ha⟩ : ∃ a, allIn (limitsB G) hv9 = a := ⟨_, rfl⟩
        rw [ha] at hb
        obtain rfl : b = !a := hb.out.symm.trans (Bool.true_and _)
        obtain ⟨Lx, hLx⟩ : ∃ v, limitsB G = v := ⟨_, rfl⟩
        rw [hLx] at HL ha
        go_wp2_with fail
        refine wp_graph 12 [.d, .d, .d, .r (fun v W => ∃ fb mb lv, v = .pointer (some ⟨fb, 0, none⟩) ∧ FdSt wr.heap.size W fb mb Lx lv), .d, .d, .d, .r (fun v W => Nms wr.heap.size W v hv9), .d, .d, .d, .d] (by kernel_rfl) (by kernel_rfl) (by kernel_rfl) ?_
        simp only [List.take_succ_cons, List.take_zero, List.drop_succ_cons, List.drop_zero, Exs]
        iterate 10 apply Exists.intro
        apply Run.valG (wanted_none rfl _)
        · intro w1 h1 hk
          have q1 := h1.cell k1; have hg := (Fut.drew _).trans h1; have hgw := F2.out.trans hg
          have hcw := fun b o => Below.cell (p := ⟨b, o, none⟩) h1
          go_simp; rfl
        simp only [Act.put, List.setIfInBounds_toArray, List.set_cons_succ, List.set_cons_zero, List.nil_append, List.cons_append]
        apply Run.valG (wanted_none rfl _)
        · intro w1 h1 hk
          have q1 := h1.cell k1; have hg := (Fut.drew _).trans h1; have hgw := F2.out.trans hg
          have hcw := fun b o => Below.cell (p := ⟨b, o, none⟩) h1
          go_simp; rfl
        simp only [Act.put, List.setIfInBounds_toArray, List.set_cons_succ, List.set_cons_zero, List.nil_append, List.cons_append]
        apply Run.valG (by go_simp)
        · intro w1 h1 hk
          have q1 := h1.cell k1; have hg := (Fut.drew _).trans h1; have hgw := F2.out.trans hg
          have hcw := fun b o => Below.cell (p := ⟨b, o, none⟩) h1
          go_simp; rfl
        simp only [Act.put, List.setIfInBounds_toArray, List.set_cons_succ, List.set_cons_zero, List.nil_append, List.cons_append]
        apply Run.callR (by go_simp) (by intro v w w' hf hs; exact (by obtain ⟨fb, mb, lv, g1, g2⟩ := hs; exact ⟨fb, mb, lv, g1, g2.fut hf⟩)) (fun _ _ => by go_simp; exact ⟨rfl, rfl⟩)
        · intro w1 h1 hk
          have q1 := h1.cell k1; have hg := (Fut.drew _).trans h1; have hgw := F2.out.trans hg
          refine (HL.out _ hg).mono ?_; rintro e w' ⟨fb, mb, lv, rfl, g1, hf⟩; exact ⟨_, rfl, hf, fb, mb, lv, rfl, ⟨g1.cell, g1.list.base hg.size, g1.map, g1.sizes, Nat.le_trans hg.size g1.low.1, Nat.le_trans hg.size g1.low.2⟩⟩
        intro v3
        simp only [Act.put, List.setIfInBounds_toArray, List.set_cons_succ, List.set_cons_zero, List.nil_append, List.cons_append]
        apply Run.valG (by go_simp)
        · intro w1 h1 hk
          have q1 := h1.cell k1; have hg := (Fut.drew _).trans h1; have hgw := F2.out.trans hg
          have hcw := fun b o => Below.cell (p := ⟨b, o, none⟩) h1
          go_simp; rfl
        simp only [Act.put, List.setIfInBounds_toArray, List.set_cons_succ, List.set_cons_zero, List.nil_append, List.cons_append]
        apply Run.valG (by go_simp)
        · intro w1 h1 hk
          have q1 := h1.cell k1; have hg := (Fut.drew _).trans h1; have hgw := F2.out.trans hg
          have hcw := fun b o => Below.cell (p := ⟨b, o, none⟩) h1
          go_simp; rfl
        simp only [Act.put, List.setIfInBounds_toArray, List.set_cons_succ, List.set_cons_zero, List.nil_append, List.cons_append]
        apply Run.valG (by go_simp)
        · intro w1 h1 hk
          have q1 := h1.cell k1; have hg := (Fut.drew _).trans h1; have hgw := F2.out.trans hg
          have hcw := fun b o => Below.cell (p := ⟨b, o, none⟩) h1
          go_simp; rfl
        simp only [Act.put, List.setIfInBounds_toArray, List.set_cons_succ, List.set_cons_zero, List.nil_append, List.cons_append]
        apply Run.callR (by go_simp) (by intro v w w' hf hs; exact hs.fut RNm.stays hf) (fun _ _ => by go_simp; exact ⟨rfl, rfl⟩)
        · intro w1 h1 hk
          have f3 := Facts.get hk 0 rfl (by kernel_rfl)
          have q1 := h1.cell k1; have hg := (Fut.drew _).trans h1; have hgw := F2.out.trans hg
          refine (HV.out _ hgw).mono ?_; rintro e w' ⟨v, rfl, g1, hf⟩; exact ⟨_, rfl, hf, g1.base hg.size⟩
        intro v7
        simp only [Act.put, List.setIfInBounds_toArray, List.set_cons_succ, List.set_cons_zero, List.nil_append, List.cons_append]
        apply Run.call (by go_simp) (fun _ _ => by go_simp; exact ⟨rfl, rfl⟩)
        · intro w1 h1 hk
          have f3 := Facts.get hk 0 rfl (by kernel_rfl)
          have f7 := Facts.get hk 1 rfl (by kernel_rfl)
          have q1 := h1.cell k1; have hg := (Fut.drew _).trans h1; have hgw := F2.out.trans hg
          obtain ⟨fb, mb, lv, rfl, g1⟩ := f3; obtain ⟨A, c, rfl, _, _⟩ := f7.rep.form; refine (allF_any A c hv9 _ g1 f7.rep (by unfold maxLen; omega) HO.out).mono ?_; rintro e w' ⟨rfl, rfl⟩; rw [ha]; exact ⟨rfl, Fut.refl _⟩
        simp only [Act.put, List.setIfInBounds_toArray, List.set_cons_succ, List.set_cons_zero, List.nil_append, List.cons_append]
        apply Run.valG (by go_simp)
        · intro w1 h1 hk
          have q1 := h1.cell k1; have hg := (Fut.drew _).trans h1; have hgw := F2.out.trans hg
          have hcw := fun b o => Below.cell (p := ⟨b, o, none⟩) h1
          go_simp; rfl
        simp only [Act.put, List.setIfInBounds_toArray, List.set_cons_succ, List.set_cons_zero, List.nil_append, List.cons_append]
        apply Run.valG (wanted_none rfl _)
        · intro w1 h1 hk
          have q1 := h1.cell k1; have hg := (Fut.drew _).trans h1; have hgw := F2.out.trans hg
          have hcw := fun b o => Below.cell (p := ⟨b, o, none⟩) h1
          go_simp; rfl
        simp only [Act.put, List.setIfInBounds_toArray, List.set_cons_succ, List.set_cons_zero, List.nil_append, List.cons_append]
        apply Run.valG (wanted_none rfl _)
        · intro w1 h1 hk
          have q1 := h1.cell k1; have hg := (Fut.drew _).trans h1; have hgw := F2.out.trans hg
          have hcw := fun b o => Below.cell (p := ⟨b, o, none⟩) h1
          go_simp; rfl
        simp only [Act.put, List.setIfInBounds_toArray, List.set_cons_succ, List.set_cons_zero, List.nil_append, List.cons_append]
        apply Run.done
        intro w2 h2 hk
        obtain ⟨f3, f7, _⟩ := hk
        have F3 := Lib.hid (F2.out.trans ((Fut.drew _).trans h2))
        clear h2 f3 f7
        go_wp2
        go_ret
        exact ⟨rfl, F3.out⟩
end Go.Proofs.YtackadhamghblaaGreat
/- A struct read whole into a variable of its own, its index ahead. No program. -/
namespace Go.Proofs.YtackadhamghblaaGreat
open Go.RowKit Go.WideMaps
set_option linter.unusedSimpArgs false
set_option linter.unusedVariables false

theorem set_under (w : World) (o p : Array Value) (t u : TypeId) (v : Value) : ((w.alloc (.cells o t)).alloc (.cells p u)).setCell ⟨w.heap.size, 0, none⟩ v = (w.alloc (.cells (o.setIfInBounds 0 v) t)).alloc (.cells p u) := by
  unfold World.setCell World.alloc
  congr 1
  refine Array.ext_getElem? fun j => ?_
  rw [Array.getElem?_modify]
  by_cases hj : j = w.heap.size
  · subst hj
    simp [Array.getElem?_push]
  · rw [if_neg (Ne.symm hj)]
    simp [Array.getElem?_push, hj]
/-- .. with its index ahead. -/
theorem wpList_rangeBox2 {P : Program} {ops : Array Oper} {rest : List Oper} {o2 o3 o4 o5 o6 : Oper} {a : Act} {Q : Exit → Act → World → Prop} {w w' : World} {T tI : TypeId} {x x5 y5 x6 y6 : Operand} {b o : Nat} (cs : List Value) (vi : Value) {z zi : Value} {fs : Array Field}
    (g2 : o2.guard = none) (g3 : o3.guard = none) (g4 : o4.guard = none) (g5 : o5.guard = none) (g6 : o6.guard = none) (h2 : o2.op = .load T x) (h3 : o3.op = .alloc tI) (h4 : o4.op = .alloc T) (h5 : o5.op = .store tI x5 y5) (h6 : o6.op = .store T x6 y6) (hx : a.eval x = .pointer (some ⟨b, o, none⟩)) (hc : ∀ j v, cs[j]? = some v → w.cell? ⟨b, o + j, none⟩ = some v)
    (hu : P.underlying T = some (.struct fs)) (hi : (P.info? T).map (fun i => (i.zero, i.size)) = some (some z, cs.length)) (hz : z.cells.size = cs.length) (h1 : ∀ v ∈ cs, v.oneCell' = true)
    (hii : (P.info? tI).map (fun i => (i.zero, i.size)) = some (some zi, 1)) (hzi : zi.cells.size = 1) (hvi : vi.oneCell' = true)
    (hy5 : (((a.put o2.dst (.agg cs.toArray)).put o3.dst (.pointer (some ⟨w.heap.size, 0, none⟩))).put o4.dst (.pointer (some ⟨w.heap.size + 1, 0, none⟩))).eval y5 = vi)
    (hx5 : (((a.put o2.dst (.agg cs.toArray)).put o3.dst (.pointer (some ⟨w.heap.size, 0, none⟩))).put o4.dst (.pointer (some ⟨w.heap.size + 1, 0, none⟩))).eval x5 = .pointer (some ⟨w.heap.size, 0, none⟩))
    (hx6 : ((((a.put o2.dst (.agg cs.toArray)).put o3.dst (.pointer (some ⟨w.heap.size, 0, none⟩))).put o4.dst (.pointer (some ⟨w.heap.size + 1, 0, none⟩))).put o5.dst undef).eval x6 = .pointer (some ⟨w.heap.size + 1, 0, none⟩))
    (hy6 : ((((a.put o2.dst (.agg cs.toArray)).put o3.dst (.pointer (some ⟨w.heap.size, 0, none⟩))).put o4.dst (.pointer (some ⟨w.heap.size + 1, 0, none⟩))).put o5.dst undef).eval y6 = .agg cs.toArray)
    (hw : (w.alloc (.cells #[vi] tI)).alloc (.cells cs.toArray T) = w')
    (h : wpList P ops Q rest (((((a.put o2.dst (.agg cs.toArray)).put o3.dst (.pointer (some ⟨w.heap.size, 0, none⟩))).put o4.dst (.pointer (some ⟨w.heap.size + 1, 0, none⟩))).put o5.dst undef).put o6.dst undef) w') : wpList P ops Q (o2 :: o3 :: o4 :: o5 :: o6 :: rest) a w := by
  subst hw
  have hs : (P.info? T).map (·.size) = some cs.length := by
    cases hq : P.info? T with
    | none => simp [hq] at hi
    | some i =>
      rw [hq] at hi
      simp at hi
      simp [hi.2]
  have hsi : (P.info? tI).map (·.size) = some 1 := by
    cases hq : P.info? tI with
    | none => simp [hq] at hii
    | some i =>
      rw [hq] at hii
      simp at hii
      simp [hii.2]
  refine wpList_load_mid g2 T x h2 b o hx cs _ hc hu rfl hs ?_
  refine wpList_of_run (wanted_none g3 _) (v := .pointer (some ⟨w.heap.size, 0, none⟩)) (w' := w.alloc (.cells zi.cells tI)) ?_ ?_
  · unfold execOp
    simp only [h3, Sem.run_bind, Sem.run_pure, Result.andThen_ok, run_alloc_of hii]
  have hsz : (w.alloc (.cells zi.cells tI)).heap.size = w.heap.size + 1 := by simp
  refine wpList_of_run (wanted_none g4 _) (v := .pointer (some ⟨w.heap.size + 1, 0, none⟩)) (w' := (w.alloc (.cells zi.cells tI)).alloc (.cells z.cells T)) ?_ ?_
  · unfold execOp
    simp only [h4, Sem.run_bind, Sem.run_pure, Result.andThen_ok, run_alloc_of hi, hsz]
  obtain ⟨c0, hc0⟩ : ∃ c0, zi.cells = #[c0] := by
    have := hzi
    cases hq : zi.cells with
    | mk l =>
      rw [hq] at this
      match l, this with
      | [c0], _ => exact ⟨c0, rfl⟩
  have hb := (Fut.alloc (w.alloc (.cells zi.cells tI)) (.cells z.cells T)).block (heap_alloc_new w (.cells zi.cells tI))
  rw [hc0] at hb
  refine wpList_store_1 (wanted_none g5 _) x5 y5 h5 hx5 hy5 hsi hvi (u := c0) (cell_at (by rw [hc0]; exact hb) 0 c0 rfl) (free_at (by rw [hc0]; exact hb) 0) (set_under w zi.cells z.cells tI T vi) ?_
  have e1 : zi.cells.setIfInBounds 0 vi = #[vi] := by rw [hc0]; rfl
  rw [e1]
  refine wpList_of_skip (wanted_none g6 _) (w' := (w.alloc (.cells #[vi] tI)).alloc (.cells cs.toArray T)) ?_ h
  have hsz2 : (w.alloc (.cells #[vi] tI)).heap.size = w.heap.size + 1 := by simp
  unfold execOp
  have h9 := box_store (P := P) (w.alloc (.cells #[vi] tI)) cs z.cells hs hz h1
  rw [hsz2] at h9
  simp only [h6, hx6, hy6, Sem.run_bind, Sem.run_pure, Result.andThen_ok, h9]
end Go.Proofs.YtackadhamghblaaGreat
