/- DDraw, DDrawW, DLevP, DLevB -/
import Derived.WalkMore
import Derived.Test.YtdjffkkbjbiihaaGreatDoorC18
/- depend.draw: the callback. -/
namespace Go.Proofs.YtdjffkkbjbiihaaGreatDoor
open Go.RowKit Go.WideMaps Go.Maps
set_option linter.unusedSimpArgs false
set_option linter.unusedVariables false

theorem sucs_push_len {G : Gr} (hn : G.names.Nodup) (s t x : ByteArray) : (sucs (pushG G s t) x).length ≤ (sucs G x).length + 1 := by
  by_cases hx : x ∈ G.names
  · obtain ⟨i, S, hi⟩ := names_at hx
    have h1 : (pushG G s t)[i]? = some (x, if x = s then S ++ [t] else S) := by
      unfold pushG
      rw [List.getElem?_map, hi]
      simp only [Option.map_some]
      split <;> rfl
    rw [sucs_at (by rw [pushG_names]; exact hn) h1, sucs_at hn hi]
    split
    · simp
    · omega
  · rw [sucs_none (by rw [pushG_names]; exact hx)]
    simp
theorem addG_nodup {G : Gr} (hn : G.names.Nodup) (s : ByteArray) : (addG G s).names.Nodup := by
  unfold addG
  split
  · exact hn
  · rename_i h
    unfold Gr.names at hn h ⊢
    rw [List.map_append]
    refine List.nodup_append.2 ⟨hn, by simp, fun a ha b hb e => ?_⟩
    simp at hb
    subst hb; subst e
    exact h ha
theorem sucs_add {G : Gr} (hn : G.names.Nodup) (s x : ByteArray) : sucs (addG G s) x = sucs G x := by
  by_cases hx : x ∈ G.names
  · obtain ⟨i, S, hi⟩ := names_at hx
    have hlt := (List.getElem?_eq_some_iff.1 hi).1
    have h1 : (addG G s)[i]? = some (x, S) := by
      unfold addG
      split
      · exact hi
      · rw [List.getElem?_append_left hlt]; exact hi
    rw [sucs_at (addG_nodup hn s) h1, sucs_at hn hi]
  · rw [sucs_none hx]
    by_cases he : x = s
    · subst he
      have h1 : (addG G x)[G.length]? = some (x, []) := by
        unfold addG
        rw [if_neg hx, List.getElem?_append_right (Nat.le_refl _)]
        simp
      exact sucs_at (addG_nodup hn x) h1
    · refine sucs_none fun h => ?_
      unfold addG at h
      split at h
      · exact hx h
      · unfold Gr.names at h hx
        rw [List.map_append] at h
        rcases List.mem_append.1 h with h | h
        · exact hx h
        · simp at h
          exact he h
structure DrSt (B : Nat) (W : World) (gb rb mb : Nat) (p : ByteArray) (hv bv : Value) (G : Gr) : Prop where
  r : W.heap[rb]? = some (.cells #[.string p, hv, bv] 80 (0, 0))
  g : W.heap[gb]? = some (.cells #[.map (some mb)] tG (0, 0))
  gr : GrI B W mb G
theorem DrSt.fut {B gb rb mb : Nat} {W w' : World} {p : ByteArray} {hv bv : Value} {G : Gr} (h : DrSt B W gb rb mb p hv bv G) (hf : Fut W w') : DrSt B w' gb rb mb p hv bv G := ⟨hf.block h.r, hf.block h.g, h.gr.fut hf⟩
theorem GrI.mapE {B mb : Nat} {W : World} {G : Gr} (h : GrI B W mb G) : ∃ l, MapE strV W mb l := by
  obtain ⟨vs, _, h2, _⟩ := h
  exact ⟨_, h2⟩
theorem GrI.ge {B mb : Nat} {W : World} {G : Gr} (h : GrI B W mb G) : B ≤ mb := by
  obtain ⟨vs, _, _, _, _, _, h6⟩ := h
  exact h6
theorem wpList_mapG {ops : Array Oper} {rest : List Oper} {o : Oper} {a : Act} {Q : Exit → Act → World → Prop} {w w' : World} {b : Nat} {p : ByteArray} {v : Value} (hgd : Region.wanted o (yielded ops a.tmps) = true) (m y z : Operand)
    (ho : o.op = .mapUpdate tG m y z) (hm : a.eval m = .map (some b)) (hy : a.eval y = .string p) (hz : a.eval z = v) (hr : (Instr.mapUpdate tG (.map (some b)) (.string p) v).run Tryz.prog w = .ok () w')
    (hk : wpList Tryz.prog ops Q rest (a.put o.dst undef) w') : wpList Tryz.prog ops Q (o :: rest) a w := by
  refine wpList_of_skip hgd (w' := w') ?_ hk
  unfold execOp
  simp only [ho, hm, hy, hz, hr, Sem.run_bind, Sem.run_pure, Result.andThen_ok]
theorem exec_append_nm {B : Nat} {w : World} {o : Oper} {a : Act} {s x : Operand} {v u : Value} {xs : List ByteArray} {t : ByteArray} (ho : o.op = .call { callee := .builtin .append, args := #[s, x], argTypes := #[tVl', tVl'] }) (hs : a.eval s = v) (hx : a.eval x = u) (hown : Nms B w v xs) (hu : SlRep 1 1 RNm w u [t]) (hl : xs.length ≤ 1000000000) (hB : B ≤ w.heap.size) :
    ∃ v' w', (execOp a.eval o).run Tryz.prog w = .ok (.value v') w' ∧ Nms B w' v' (xs ++ [t]) ∧ w.grownBy w' v.ownBlock ∧ SameOrNew w v v' := by
  obtain ⟨i, hi, hz, hs', hb⟩ := info_parts infoNm
  obtain ⟨v', w', hr, h2, h3, h4⟩ := run_append_listB (P := Tryz.prog) tVl' o.type i (.string ⟨#[]⟩) 16 Tryz.underlying94 hi hz hs' hb rfl (by decide) RNm.one (fun w' cs x hr hg => RNm.keeps w w' _ cs x hr hg hown.typed) hown hu (by simp [maxLen]; omega) (by simp; omega) hB
  refine ⟨v', w', ?_, h2, h3, h4⟩
  unfold execOp
  simp only [ho, resolve, invoke, builtin, Sem.run_bind, Sem.run_pure, Result.andThen_ok, List.map_toArray, List.map_cons, List.map_nil, hs, hx, hr]
theorem exec_append_goal {B : Nat} {w : World} {o : Oper} {a : Act} {s x : Operand} {v u : Value} {xs : List ByteArray} {t : ByteArray} {E : World → Prop} {S : Value → World → Prop} (ho : o.op = .call { callee := .builtin .append, args := #[s, x], argTypes := #[tVl', tVl'] }) (hs : a.eval s = v) (hx : a.eval x = u) (hown : Nms B w v xs) (hu : SlRep 1 1 RNm w u [t]) (hl : xs.length ≤ 1000000000) (hB : B ≤ w.heap.size)
    (h : ∀ v' w', Nms B w' v' (xs ++ [t]) → w.grownBy w' v.ownBlock → SameOrNew w v v' → E w' ∧ S v' w') : ∃ v' w', (execOp a.eval o).run Tryz.prog w = .ok (.value v') w' ∧ E w' ∧ S v' w' := by
  obtain ⟨v', w', e1, e2, e3, e4⟩ := exec_append_nm ho hs hx hown hu hl hB
  exact ⟨v', w', e1, h v' w' e2 e3 e4⟩
theorem nmBlock {w : World} {n : Nat} {s : ByteArray} (h : w.heap[n]? = some (.cells #[.string s] 9 (0, 0))) : SlRep 1 1 RNm w (.slice (some ⟨n, 0, none⟩) 1 1) [s] :=
  ⟨_, 1, rfl, Nat.le_refl _, Nat.le_refl _, fun i y hy => by
    have hi : i = 0 := by
      have := (List.getElem?_eq_some_iff.1 hy).1
      simp at this; omega
    subst hi
    simp at hy
    subst hy
    refine ⟨n, 0, _, rfl, rfl, fun j c hj => ?_, rfl⟩
    rw [show 0 + (0 * 1 + j) = j by omega]
    exact cell_at h j c (by simpa using hj)⟩
set_option maxHeartbeats 4000000 in
set_option maxRecDepth 100000 in
theorem draw1_any {B gb rb mb : Nat} {p : ByteArray} {hv bv : Value} {G : Gr} (z : Lt) (A : Option Addr) (c : Nat) (Al : Option Addr) (l cl : Nat) (Ad : Option Addr) (d cd : Nat) (w : World) (h : DrSt B w gb rb mb p hv bv G) (hB : B ≤ w.heap.size) (hp : p.size ≤ 140737488351232) (hzp : z.p.size ≤ 140737488351232) (hin : p ∈ G.names) (hes : (sucs G p).length ≤ 1000000000) :
    Calls Tryz.prog 78 #[.agg (z.cs (.slice A z.a.length c) (.slice Al l cl) (.slice Ad d cd)).toArray, .pointer (some ⟨gb, 0, none⟩), .pointer (some ⟨rb, 0, none⟩)] w fun e w' => (∃ u, e = .returned u) ∧ DrSt B w' gb rb mb p hv bv (stepG p G z) ∧ Only (fun k => B ≤ k) w w' := by
  have hbx := heap_alloc_new w (.cells (z.cs (.slice A z.a.length c) (.slice Al l cl) (.slice Ad d cd)).toArray 119)
  have k1 := cell_at hbx 1 (.string z.p) rfl
  have hbl := (Array.getElem?_eq_some_iff.1 hbx).1
  generalize hcs : z.cs (.slice A z.a.length c) (.slice Al l cl) (.slice Ad d cd) = cs at *
  have f0 := Fut.alloc w (.cells cs.toArray 119)
  have g1 := h.fut f0
  have x0 := cell_at g1.r 0 (.string p) rfl
  have x1 := cell_at g1.g 0 (.map (some mb)) rfl
  obtain ⟨v, hN, HLk, HPs⟩ := g1.gr.push (t := z.p) hp hzp hin
  obtain ⟨Av, cv, rfl, _, _⟩ := hN.rep.form
  have hs0 := f0.size
  obtain ⟨l9, hm9⟩ := g1.gr.mapE
  have sepb : ∀ {j : Nat} {a : Array Value} {t : TypeId}, (w.alloc (.cells cs.toArray 119)).heap[j]? = some (.cells a t (0, 0)) → t ≠ 9 → ¬ (Value.slice Av (sucs G p).length cv).ownBlock = some j := fun hj ht e => by
    obtain ⟨arr, h9⟩ := hN.typed _ e
    exact other_block hj h9 ht rfl
  have sr := sepb g1.r (by decide)
  have sg := sepb g1.g (by decide)
  have sb := sepb hbx (by decide)
  have mr := map_ne hm9 g1.r
  have mg := map_ne hm9 g1.g
  have mx := map_ne hm9 hbx
  clear hcs hbx hm9 sepb
  have HL := Lib.hid HLk
  have HP := Lib.hid HPs
  have HN := Lib.hid hN
  have G1 := Lib.hid g1
  have F0 := Lib.hid f0
  clear HLk HPs hN g1 f0 h
  go_enter Tryz.func78, Tryz.ntmps78
  go_wp2_with fail
  letI i1 : On.Mut := On.Mut.one 11 (Only (fun k => (Value.slice Av (sucs G p).length cv).ownBlock = some k)) Only.fut Only.trans
  refine On.wp_graph 12 [.d, .d, .d, .d, .d, .d, .d, .d, .d, .d, .r (fun u W => ∃ n, (w.alloc (.cells cs.toArray 119)).heap.size ≤ n ∧ u = .slice (some ⟨n, 0, none⟩) 1 1 ∧ W.heap[n]? = some (.cells #[.string z.p] 9 (0, 0))), .r (fun u W => Nms B W u (sucs G p ++ [z.p]) ∧ ∀ k, u.ownBlock = some k → (Value.slice Av (sucs G p).length cv).ownBlock = some k ∨ (w.alloc (.cells cs.toArray 119)).heap.size ≤ k)] (by kernel_rfl) (by kernel_rfl) (by kernel_rfl) (.inr fun _ _ => trivial) On.one_dep ?_
  simp only [List.take_succ_cons, List.take_zero, List.drop_succ_cons, List.drop_zero, Exs]
  iterate 10 apply Exists.intro
  apply On.Run.valG (.inr fun _ _ => trivial) (wanted_none rfl _)
  · intro w1 h1 hk
    have hg : Only (fun k => (Value.slice Av (sucs G p).length cv).ownBlock = some k) (w.alloc (.cells cs.toArray 119)) w1 := (Only.fut (Fut.drew _)).trans (by first | exact h1 | exact Only.fut h1); have q0 := hg.cell x0 sr; have q1 := hg.cell x1 sg; have q2 := hg.cell k1 sb; have q3 := HL.out _ hg
    go_simp; rfl
  simp only [Act.put, List.setIfInBounds_toArray, List.set_cons_succ, List.set_cons_zero, List.nil_append, List.cons_append]
  apply On.Run.valG (.inr fun _ _ => trivial) (wanted_none rfl _)
  · intro w1 h1 hk
    have hg : Only (fun k => (Value.slice Av (sucs G p).length cv).ownBlock = some k) (w.alloc (.cells cs.toArray 119)) w1 := (Only.fut (Fut.drew _)).trans (by first | exact h1 | exact Only.fut h1); have q0 := hg.cell x0 sr; have q1 := hg.cell x1 sg; have q2 := hg.cell k1 sb; have q3 := HL.out _ hg
    go_simp; rfl
  simp only [Act.put, List.setIfInBounds_toArray, List.set_cons_succ, List.set_cons_zero, List.nil_append, List.cons_append]
  apply On.Run.valG (.inr fun _ _ => trivial) (wanted_none rfl _)
  · intro w1 h1 hk
    have hg : Only (fun k => (Value.slice Av (sucs G p).length cv).ownBlock = some k) (w.alloc (.cells cs.toArray 119)) w1 := (Only.fut (Fut.drew _)).trans (by first | exact h1 | exact Only.fut h1); have q0 := hg.cell x0 sr; have q1 := hg.cell x1 sg; have q2 := hg.cell k1 sb; have q3 := HL.out _ hg
    go_simp; rfl
  simp only [Act.put, List.setIfInBounds_toArray, List.set_cons_succ, List.set_cons_zero, List.nil_append, List.cons_append]
  apply On.Run.valG (.inr fun _ _ => trivial) (wanted_none rfl _)
  · intro w1 h1 hk
    have hg : Only (fun k => (Value.slice Av (sucs G p).length cv).ownBlock = some k) (w.alloc (.cells cs.toArray 119)) w1 := (Only.fut (Fut.drew _)).trans (by first | exact h1 | exact Only.fut h1); have q0 := hg.cell x0 sr; have q1 := hg.cell x1 sg; have q2 := hg.cell k1 sb; have q3 := HL.out _ hg
    go_simp; rfl
  simp only [Act.put, List.setIfInBounds_toArray, List.set_cons_succ, List.set_cons_zero, List.nil_append, List.cons_append]
  apply On.Run.valG (.inr fun _ _ => trivial) (wanted_none rfl _)
  · intro w1 h1 hk
    have hg : Only (fun k => (Value.slice Av (sucs G p).length cv).ownBlock = some k) (w.alloc (.cells cs.toArray 119)) w1 := (Only.fut (Fut.drew _)).trans (by first | exact h1 | exact Only.fut h1); have q0 := hg.cell x0 sr; have q1 := hg.cell x1 sg; have q2 := hg.cell k1 sb; have q3 := HL.out _ hg
    go_simp; rfl
  simp only [Act.put, List.setIfInBounds_toArray, List.set_cons_succ, List.set_cons_zero, List.nil_append, List.cons_append]
  apply On.Run.valG (.inr fun _ _ => trivial) (wanted_none rfl _)
  · intro w1 h1 hk
    have hg : Only (fun k => (Value.slice Av (sucs G p).length cv).ownBlock = some k) (w.alloc (.cells cs.toArray 119)) w1 := (Only.fut (Fut.drew _)).trans (by first | exact h1 | exact Only.fut h1); have q0 := hg.cell x0 sr; have q1 := hg.cell x1 sg; have q2 := hg.cell k1 sb; have q3 := HL.out _ hg
    go_simp; rfl
  simp only [Act.put, List.setIfInBounds_toArray, List.set_cons_succ, List.set_cons_zero, List.nil_append, List.cons_append]
  apply On.Run.valG (.inr fun _ _ => trivial) (wanted_none rfl _)
  · intro w1 h1 hk
    have hg : Only (fun k => (Value.slice Av (sucs G p).length cv).ownBlock = some k) (w.alloc (.cells cs.toArray 119)) w1 := (Only.fut (Fut.drew _)).trans (by first | exact h1 | exact Only.fut h1); have q0 := hg.cell x0 sr; have q1 := hg.cell x1 sg; have q2 := hg.cell k1 sb; have q3 := HL.out _ hg
    go_simp; rfl
  simp only [Act.put, List.setIfInBounds_toArray, List.set_cons_succ, List.set_cons_zero, List.nil_append, List.cons_append]
  apply On.Run.valG (.inr fun _ _ => trivial) (wanted_none rfl _)
  · intro w1 h1 hk
    have hg : Only (fun k => (Value.slice Av (sucs G p).length cv).ownBlock = some k) (w.alloc (.cells cs.toArray 119)) w1 := (Only.fut (Fut.drew _)).trans (by first | exact h1 | exact Only.fut h1); have q0 := hg.cell x0 sr; have q1 := hg.cell x1 sg; have q2 := hg.cell k1 sb; have q3 := HL.out _ hg
    go_simp; rfl
  simp only [Act.put, List.setIfInBounds_toArray, List.set_cons_succ, List.set_cons_zero, List.nil_append, List.cons_append]
  apply On.Run.valG (.inr fun _ _ => trivial) (wanted_none rfl _)
  · intro w1 h1 hk
    have hg : Only (fun k => (Value.slice Av (sucs G p).length cv).ownBlock = some k) (w.alloc (.cells cs.toArray 119)) w1 := (Only.fut (Fut.drew _)).trans (by first | exact h1 | exact Only.fut h1); have q0 := hg.cell x0 sr; have q1 := hg.cell x1 sg; have q2 := hg.cell k1 sb; have q3 := HL.out _ hg
    go_simp; rfl
  simp only [Act.put, List.setIfInBounds_toArray, List.set_cons_succ, List.set_cons_zero, List.nil_append, List.cons_append]
  apply On.Run.valG (.inr fun _ _ => trivial) (wanted_none rfl _)
  · intro w1 h1 hk
    have hg : Only (fun k => (Value.slice Av (sucs G p).length cv).ownBlock = some k) (w.alloc (.cells cs.toArray 119)) w1 := (Only.fut (Fut.drew _)).trans (by first | exact h1 | exact Only.fut h1); have q0 := hg.cell x0 sr; have q1 := hg.cell x1 sg; have q2 := hg.cell k1 sb; have q3 := HL.out _ hg
    go_simp; rfl
  simp only [Act.put, List.setIfInBounds_toArray, List.set_cons_succ, List.set_cons_zero, List.nil_append, List.cons_append]
  apply On.Run.valR (.inr fun _ _ => trivial) (wanted_none rfl _) (by intro v w w' hf hs; exact (by obtain ⟨n, a1, a2, a3⟩ := hs; exact ⟨n, a1, a2, (show Only (fun k => (Value.slice Av (sucs G p).length cv).ownBlock = some k) _ _ from by first | exact hf | exact Only.fut hf).keeps a3 (fun e => by have := (HN.out.block n e).2; omega)⟩))
  · intro w1 h1 hk
    have hg : Only (fun k => (Value.slice Av (sucs G p).length cv).ownBlock = some k) (w.alloc (.cells cs.toArray 119)) w1 := (Only.fut (Fut.drew _)).trans (by first | exact h1 | exact Only.fut h1); have q0 := hg.cell x0 sr; have q1 := hg.cell x1 sg; have q2 := hg.cell k1 sb; have q3 := HL.out _ hg
    go_simp; exact ⟨_, _, ⟨rfl, rfl⟩, Fut.alloc _ _, _, by have := hg.size; simpa using this, rfl, heap_alloc_new _ _⟩
  intro v10
  simp only [Act.put, List.setIfInBounds_toArray, List.set_cons_succ, List.set_cons_zero, List.nil_append, List.cons_append]
  apply On.Run.mutVR (.inr fun _ _ => trivial) (wanted_none rfl _) (by intro v w w' hf hs; exact ⟨hs.1.fut RNm.stays (show Fut _ _ from hf), hs.2⟩)
  · intro w1 h1 hk
    have f10 := Facts.get hk 0 rfl (by kernel_rfl)
    have hg : Only (fun k => (Value.slice Av (sucs G p).length cv).ownBlock = some k) (w.alloc (.cells cs.toArray 119)) w1 := (Only.fut (Fut.drew _)).trans (by first | exact h1 | exact Only.fut h1); have q0 := hg.cell x0 sr; have q1 := hg.cell x1 sg; have q2 := hg.cell k1 sb; have q3 := HL.out _ hg
    obtain ⟨n, a1, rfl, a3⟩ := f10; refine exec_append_goal (B := B) (t := z.p) (xs := sucs G p) (v := .slice Av (sucs G p).length cv) rfl rfl rfl (HN.out.fut RNm.stays ((Fut.drew _).trans h1)) (nmBlock a3) (by omega) (by have := hg.size; omega) (fun v' w' e2 e3 e4 => ⟨On.Eff.one (Only.grown e3 fun k hk => hk), e2, fun k hk => ?_⟩); rcases e4 with e | e; exact .inl (e ▸ hk); exact .inr (Nat.le_trans hg.size (e k hk))
  intro v11
  simp only [Act.put, List.setIfInBounds_toArray, List.set_cons_succ, List.set_cons_zero, List.nil_append, List.cons_append]
  apply On.Run.done
  intro w2 h2 hk hJ
  obtain ⟨f10, f11, _⟩ := hk
  obtain ⟨hN3, hnew⟩ := f11
  have hO2 : Only (fun k => (Value.slice Av (sucs G p).length cv).ownBlock = some k) (w.alloc (.cells cs.toArray 119)) w2 := (Only.fut (Fut.drew _)).trans (show Only (fun k => (Value.slice Av (sucs G p).length cv).ownBlock = some k) _ _ from h2)
  obtain ⟨w3, hr, hG3, hO3⟩ := HP.out w2 v11 hO2 hN3 hnew
  obtain ⟨A8, c8, rfl, _, _⟩ := hN3.rep.form
  have gd := G1.out
  have b1 := hO3.keeps gd.r (by rintro (e | e); exact mr e.symm; exact sr e)
  have b2 := hO3.keeps gd.g (by rintro (e | e); exact mg e.symm; exact sg e)
  have b3 := hO3.cell k1 (by rintro (e | e); exact mx e.symm; exact sb e)
  have c2 := cell_at b2 0 (.map (some mb)) rfl
  have OA : Only (fun k => B ≤ k) w w3 := (Only.fut F0.out).trans (hO3.mono fun k _ hk => by
    rcases hk with hk | hk
    · rw [hk]; exact gd.gr.ge
    · exact (HN.out.block k hk).1)
  replace OA := Lib.hid OA
  have HB1 := Lib.hid b1
  have HB2 := Lib.hid b2
  obtain ⟨G2, hG2⟩ : ∃ G2, pushG G p z.p = G2 := ⟨_, rfl⟩
  have hst : stepG p G z = addG G2 z.p := by unfold stepG; rw [hG2]
  replace hst := Lib.hid hst
  rw [hG2] at hG3
  obtain ⟨v2, hN2, hL2⟩ := hG3.look hzp
  have hL2' := (hL2 w3 (Fut.refl _)).2
  obtain ⟨A9, c9, rfl, _, _⟩ := hN2.rep.form
  clear i1 h2 hO2 hO3 hnew f10 hN3 gd b1 b2 k1 x0 x1 HP HL HN hL2 hN2 sr sg sb mr mg mx G1 F0 hJ
  refine wpList_mapG (wanted_none rfl _) _ _ _ rfl rfl rfl rfl hr ?_
  clear hr
  by_cases hin2 : z.p ∈ G2.names
  · have ha : addG G2 z.p = G2 := by unfold addG; rw [if_pos hin2]
    rw [decide_eq_true hin2] at hL2'
    have HG3 := Lib.hid (show DrSt B w3 gb rb mb p hv bv (stepG p G z) from by rw [hst.out, ha]; exact ⟨HB1.out, HB2.out, hG3⟩)
    clear hG3 hin2 ha hst hG2
    go_wp2
    go_end0
    exact ⟨⟨_, rfl⟩, HG3.out, OA.out⟩
  · rw [decide_eq_false hin2] at hL2'
    obtain ⟨w4, hr4, hg4, hG4⟩ := hG3.add hzp hin2
    obtain ⟨l9, hm9⟩ := hG3.mapE
    have O4 : Only (fun k => k = mb) w3 w4 := Only.grown hg4 fun k hk => (Option.some.inj hk).symm
    have HD := Lib.hid (show DrSt B w4 gb rb mb p hv bv (stepG p G z) from by rw [hst.out]; exact ⟨O4.keeps HB1.out fun e => map_ne hm9 HB1.out e.symm, O4.keeps HB2.out fun e => map_ne hm9 HB2.out e.symm, hG4⟩)
    have OB := Lib.hid (OA.out.trans (O4.mono fun k _ hk => by rw [hk]; exact hG3.ge))
    clear O4 hm9 hg4 hG4 hG3 hin2 hst hG2 OA
    go_wp2
    go_end0
    exact ⟨⟨_, rfl⟩, HD.out, OB.out⟩
end Go.Proofs.YtdjffkkbjbiihaaGreatDoor
/- depend.draw. -/
namespace Go.Proofs.YtdjffkkbjbiihaaGreatDoor
open Go.RowKit Go.WideMaps Go.Maps
set_option linter.unusedSimpArgs false
set_option linter.unusedVariables false

theorem filt_fold {l : List Lt} {k : Nat} (hk : k < l.length) (p : ByteArray) (G : Gr) : ((l.take (k + 1)).filter Lt.isA).foldl (stepG p) G = if l[k].isA = true then stepG p (((l.take k).filter Lt.isA).foldl (stepG p) G) l[k] else ((l.take k).filter Lt.isA).foldl (stepG p) G := by
  rw [List.take_succ_eq_append_getElem hk, List.filter_append, List.foldl_append]
  cases h : l[k].isA <;> simp [h]
theorem step_in {p x : ByteArray} {G : Gr} {z : Lt} (h : x ∈ G.names) : x ∈ (stepG p G z).names := by
  unfold stepG
  refine addG_mono ?_
  rw [pushG_names]
  exact h
theorem step_len {p : ByteArray} {G : Gr} {z : Lt} (hn : G.names.Nodup) {n : Nat} (h : ∀ s, (sucs G s).length ≤ n) : ∀ s, (sucs (stepG p G z) s).length ≤ n + 1 := fun s => by
  unfold stepG
  rw [sucs_add (by rw [pushG_names]; exact hn)]
  have h1 := sucs_push_len hn p z.p s
  have h2 := h s
  omega
theorem call_draw1 : ∀ args W, (callFunc 78 args).run Tryz.prog W = .ok (.enter 78 args) W := fun args W => by kernel_rfl
theorem draws_of {wC : World} {gb rb mb : Nat} (r : Ru) (Ah Ab : Option Addr) (ch cb : Nat) (G : Gr) (N0 : Nat) (w : World) (hf : Fut wC w) (hp : r.p.size ≤ 140737488351232) (h2 : SlRep 16 651562446089 RLt wC (.slice Ab r.b.length cb) r.b) (hN : N0 + r.b.length ≤ 100000000) (hin : r.p ∈ G.names) (hl : ∀ s, (sucs G s).length ≤ N0)
    (h0 : DrSt wC.heap.size w gb rb mb r.p (.slice Ah r.h.length ch) (.slice Ab r.b.length cb) G) :
    Calls Tryz.prog 34 #[.slice Ab r.b.length cb, .func (.func 78) #[] #[.pointer (some ⟨gb, 0, none⟩), .pointer (some ⟨rb, 0, none⟩)]] w fun e w' => (∃ u, e = .returned u) ∧ Fut wC w' ∧ DrSt wC.heap.size w' gb rb mb r.p (.slice Ah r.h.length ch) (.slice Ab r.b.length cb) ((r.b.filter Lt.isA).foldl (stepG r.p) G) ∧ ∀ s, (sucs ((r.b.filter Lt.isA).foldl (stepG r.p) G) s).length ≤ N0 + r.b.length := by
  refine (atoms_any (fun k W => (Fut wC W ∧ DrSt wC.heap.size W gb rb mb r.p (.slice Ah r.h.length ch) (.slice Ab r.b.length cb) (((r.b.take k).filter Lt.isA).foldl (stepG r.p) G)) ∧ r.p ∈ (((r.b.take k).filter Lt.isA).foldl (stepG r.p) G).names ∧ ∀ s, (sucs (((r.b.take k).filter Lt.isA).foldl (stepG r.p) G) s).length ≤ N0 + k) Ab cb r.b w _ _ (by omega) call_draw1 (fun k W h => h2.fut RLt.stays h.1.1) (fun k W W' h hw => ⟨⟨h.1.1.trans hw, h.1.2.fut hw⟩, h.2⟩) (fun k hk W h ha => ?_) (fun k hk W A' c' Al l cl Ad d cd h ha hc => ?_) ⟨⟨hf, h0⟩, hin, fun s => hl s⟩).mono ?_
  · rw [filt_fold hk, if_neg (by rw [ha]; decide)]
    exact ⟨h.1, h.2.1, fun s => Nat.le_trans (h.2.2 s) (by omega)⟩
  · obtain ⟨⟨hF, h9⟩, h8, h7⟩ := h
    refine (draw1_any r.b[k] A' c' Al l cl Ad d cd W h9 hF.size hp hc.pw h8 (by have := h7 r.p; omega)).mono ?_
    rintro e W' ⟨hu, hD, hO⟩
    rw [filt_fold hk, if_pos ha]
    exact ⟨hu, ⟨((Only.fut hF).trans hO).toFut (fun k hk => hk), hD⟩, step_in h8, fun s => by have := step_len (p := r.p) (z := r.b[k]) h9.gr.nodup h7 s; omega⟩
  · rintro e w' ⟨hu, ⟨hF, h9⟩, _, h7⟩
    rw [List.take_length] at h9 h7
    exact ⟨hu, hF, h9, h7⟩
theorem bsum_le : ∀ l : List Ru, (l.map (·.b.length)).sum ≤ (l.map Ru.parts).sum
  | [] => by simp
  | r :: rs => by
    rw [List.map_cons, List.map_cons, List.sum_cons, List.sum_cons, Ru.parts_eq]
    have := bsum_le rs
    omega
theorem bsum_take {l : List Ru} {k : Nat} (hk : k < l.length) : ((l.take (k + 1)).map (·.b.length)).sum = ((l.take k).map (·.b.length)).sum + l[k].b.length := by
  rw [List.take_succ_eq_append_getElem hk, List.map_append, List.sum_append]
  simp
theorem bsum_take_le (l : List Ru) (k : Nat) : ((l.take k).map (·.b.length)).sum ≤ (l.map (·.b.length)).sum := by
  conv => rhs; rw [← List.take_append_drop k l]
  rw [List.map_append, List.sum_append]
  omega
def DrawI (w : World) (gb mb : Nat) (W : World) (G : Gr) (n : Nat) : Prop := W.heap[gb]? = some (.cells #[.map (some mb)] tG (0, 0)) ∧ GrI w.heap.size W mb G ∧ ∀ s, (sucs G s).length ≤ n
set_option maxHeartbeats 4000000 in
set_option maxRecDepth 100000 in
theorem draw_any {M : Nat} (A : Option Addr) (c : Nat) (rs : List Ru) (w : World) (h : SlRep 3 M RRu w (.slice A rs.length c) rs) (hM : M ≤ 9223372036854775807) (hS : Small rs) :
    Calls Tryz.prog 23 #[.agg #[.slice A rs.length c]] w fun e w' => ∃ mb, e = .returned (.map (some mb)) ∧ GrI w.heap.size w' mb (drawP rs) ∧ Fut w w' := by
  obtain ⟨_, _, hv, hl1, hl2⟩ := h.form
  have hxl : rs.length ≤ 9223372036854775807 := by omega
  have H := Lib.hid h
  have HS := Lib.hid (show (rs.map (·.b.length)).sum ≤ 10000000 from Nat.le_trans (bsum_le rs) hS)
  clear h hS hl1 hl2 hv
  have hbx := heap_alloc_new w (.cells #[.slice A rs.length c] 31)
  have f0 := Fut.alloc w (.cells #[.slice A rs.length c] 31)
  have hsz0 : (w.alloc (.cells #[.slice A rs.length c] 31)).heap.size = w.heap.size + 1 := by simp
  have hm := MapE.new (kv := strV) (w.alloc (.cells #[.slice A rs.length c] 31))
  have f1 := Fut.alloc (w.alloc (.cells #[.slice A rs.length c] 31)) (.map #[] 0)
  have hsz1 : ((w.alloc (.cells #[.slice A rs.length c] 31)).alloc (.map #[] 0)).heap.size = w.heap.size + 2 := by simp
  rw [hsz0] at hm
  have hgb := heap_alloc_new ((w.alloc (.cells #[.slice A rs.length c] 31)).alloc (.map #[] 0)) (.cells #[.map (some (w.heap.size + 1))] tG)
  rw [hsz1] at hgb
  have f2 := Fut.alloc ((w.alloc (.cells #[.slice A rs.length c] 31)).alloc (.map #[] 0)) (.cells #[.map (some (w.heap.size + 1))] tG)
  have c0 := cell_at ((f1.trans f2).block hbx) 0 (.slice A rs.length c) rfl
  have HI := Lib.hid (show DrawI w (w.heap.size + 2) (w.heap.size + 1) (((w.alloc (.cells #[.slice A rs.length c] 31)).alloc (.map #[] 0)).alloc (.cells #[.map (some (w.heap.size + 1))] tG)) ((rs.take 0).foldl drawR []) (((rs.take 0).map (·.b.length)).sum) from
    ⟨hgb, ⟨[], rfl, hm.fut f2, fun i v x hv => by simp at hv, fun i j v u k hv => by simp at hv, fun x hx => (by cases hx), by omega⟩, fun s => by simp [sucs]⟩)
  have HF0 := Lib.hid ((f0.trans f1).trans f2)
  clear hbx f0 hsz0 hm f1 hsz1 hgb f2
  have hmm := @run_makeMap Tryz.prog
  go_enter Tryz.func23, Tryz.ntmps23
  go_wp2_with fail
  clear hmm c0
  go_loopw [12] (fun i wr => ∃ k : Nat, k ≤ rs.length ∧ i = .int .i64 k ∧ Hid (Fut w wr) ∧ Hid (DrawI w (w.heap.size + 2) (w.heap.size + 1) wr ((rs.take k).foldl drawR []) (((rs.take k).map (·.b.length)).sum))) (fun i _ => rs.length - (intOf i).toNat)
  case atStart => exact ⟨0, Nat.zero_le _, rfl, HF0, HI⟩
  case round =>
    obtain ⟨k, hk, rfl, hF, hI⟩ := hrel
    by_cases hlt : k < rs.length
    · have hltI : (k : Int) < rs.length := by omega
      have e0 : (0 : Int) ≤ k ∧ (k : Int) < rs.length := by omega
      obtain ⟨b', off, Ah, ch, Ab, cb, rfl, u0, u1, u2, hp, hh1, hh2⟩ := ru_at H.out hlt
      have hnx := Lib.hid (show (rs.take (k + 1)).foldl drawR [] = drawR ((rs.take k).foldl drawR []) rs[k] by rw [List.take_succ_eq_append_getElem hlt, List.foldl_append]; rfl)
      have hnb := Lib.hid (bsum_take hlt)
      have hle := bsum_take_le rs (k + 1)
      rw [hnb.out] at hle
      have hSo := HS.out
      generalize rs[k] = r at *
      have hcs9 := Lib.hid (three_cells (hF.out.cell u0) (hF.out.cell u1) (hF.out.cell u2))
      obtain ⟨N0, hN0⟩ : ∃ n, ((rs.take k).map (·.b.length)).sum = n := ⟨_, rfl⟩
      obtain ⟨G, hG⟩ : ∃ G, (rs.take k).foldl drawR [] = G := ⟨_, rfl⟩
      rw [hN0] at hI hnb hle
      rw [hG] at hI hnx
      obtain ⟨i1, i2, i3⟩ := hI.out
      obtain ⟨w2, hw2⟩ : ∃ W, wr.alloc (.cells [.string r.p, .slice Ah r.h.length ch, .slice Ab r.b.length cb].toArray 80) = W := ⟨_, rfl⟩
      have f1 : Fut wr w2 := by rw [← hw2]; exact Fut.alloc _ _
      have hrb : w2.heap[wr.heap.size]? = some (.cells #[.string r.p, .slice Ah r.h.length ch, .slice Ab r.b.length cb] 80 (0, 0)) := by rw [← hw2]; exact heap_alloc_new wr _
      have q0 := cell_at hrb 0 (.string r.p) rfl
      have q2 := cell_at hrb 2 (.slice Ab r.b.length cb) rfl
      have qg := cell_at (f1.block i1) 0 (.map (some (w.heap.size + 1))) rfl
      have D2 : DrSt w.heap.size w2 (w.heap.size + 2) wr.heap.size (w.heap.size + 1) r.p (.slice Ah r.h.length ch) (.slice Ab r.b.length cb) G := ⟨hrb, f1.block i1, i2.fut f1⟩
      obtain ⟨v2, hN2, hL2⟩ := D2.gr.look hp
      have hL2' := (hL2 w2 (Fut.refl _)).2
      obtain ⟨A9, c9, rfl, _, _⟩ := hN2.rep.form
      have hone : ∀ v ∈ ([.string r.p, .slice Ah r.h.length ch, .slice Ab r.b.length cb] : List Value), v.oneCell' = true := fun v hv => by
        simp only [List.mem_cons, List.not_mem_nil, or_false] at hv
        rcases hv with rfl | rfl | rfl <;> rfl
      have F2 := hF.out.trans f1
      have hw2h := Lib.hid hw2
      clear hw2 f1 hrb i1 i2 hI hN2 hL2 u0 u1 u2 hG hN0
      have fin : ∀ w3, Fut w w3 → DrSt w.heap.size w3 (w.heap.size + 2) wr.heap.size (w.heap.size + 1) r.p (.slice Ah r.h.length ch) (.slice Ab r.b.length cb) (addG G r.p) → Calls Tryz.prog 34 #[.slice Ab r.b.length cb, .func (.func 78) #[] #[.pointer (some ⟨w.heap.size + 2, 0, none⟩), .pointer (some ⟨wr.heap.size, 0, none⟩)]] w3 fun e w' => (∃ u, e = .returned u) ∧ Fut w w' ∧ DrawI w (w.heap.size + 2) (w.heap.size + 1) w' ((rs.take (k + 1)).foldl drawR []) (((rs.take (k + 1)).map (·.b.length)).sum) := fun w3 hf3 hd3 => by
        refine (draws_of r Ah Ab ch cb (addG G r.p) N0 w3 hf3 hp hh2 (by omega) addG_in (fun s => by rw [sucs_add D2.gr.nodup]; exact i3 s) hd3).mono ?_
        rintro e w' ⟨hu, hF', hD', hl'⟩
        refine ⟨hu, hF', ?_⟩
        rw [hnx.out, hnb.out]
        exact ⟨hD'.g, hD'.gr, hl'⟩
      replace fin := Lib.hid fin
      by_cases hin : r.p ∈ G.names
      · rw [decide_eq_true hin] at hL2'
        have ha : addG G r.p = G := by unfold addG; rw [if_pos hin]
        have HC := Lib.hid (fin.out w2 F2 (by rw [ha]; exact D2))
        clear ha hin D2 F2 hp hh1 hh2
        go_wp2_with (first | (refine wpList_rangeBox [.string r.p, .slice Ah r.h.length ch, .slice Ab r.b.length cb] rfl rfl rfl rfl rfl rfl rfl hcs9.out Tryz.underlying80 infoRu rfl hone rfl rfl hw2h.out ?_))
        refine HC.out.mono ?_
        rintro e w6 ⟨⟨u, rfl⟩, hF6, hE6⟩
        replace hF6 := Lib.hid hF6
        replace hE6 := Lib.hid hE6
        clear HC
        go_wp2
        go_roundw
        case rel => exact ⟨k + 1, by omega, by go_num, hF6, hE6⟩
        case measure => simp [intOf] <;> omega
      · rw [decide_eq_false hin] at hL2'
        obtain ⟨w4, hr4, hg4, hG4⟩ := D2.gr.add hp hin
        obtain ⟨l9, hm9⟩ := D2.gr.mapE
        have O4 : Only (fun k => k = w.heap.size + 1) w2 w4 := Only.grown hg4 fun k hk => (Option.some.inj hk).symm
        have D4 : DrSt w.heap.size w4 (w.heap.size + 2) wr.heap.size (w.heap.size + 1) r.p (.slice Ah r.h.length ch) (.slice Ab r.b.length cb) (addG G r.p) := ⟨O4.keeps D2.r fun e => map_ne hm9 D2.r e.symm, O4.keeps D2.g fun e => map_ne hm9 D2.g e.symm, hG4⟩
        have O5 : Only (fun k => w.heap.size ≤ k) w w4 := (Only.fut F2).trans (O4.mono fun k _ hk => by omega)
        have q2' := cell_at D4.r 2 (Value.slice Ab r.b.length cb) rfl
        have HC := Lib.hid (fin.out w4 (O5.toFut fun k hk => hk) D4)
        clear hin D2 F2 hp hh1 hh2 hg4 hG4 hm9 O4 D4 O5
        go_wp2_with (first | (refine wpList_rangeBox [.string r.p, .slice Ah r.h.length ch, .slice Ab r.b.length cb] rfl rfl rfl rfl rfl rfl rfl hcs9.out Tryz.underlying80 infoRu rfl hone rfl rfl hw2h.out ?_))
        refine HC.out.mono ?_
        rintro e w6 ⟨⟨u, rfl⟩, hF6, hE6⟩
        replace hF6 := Lib.hid hF6
        replace hE6 := Lib.hid hE6
        clear HC
        go_wp2
        go_roundw
        case rel => exact ⟨k + 1, by omega, by go_num, hF6, hE6⟩
        case measure => simp [intOf] <;> omega
    · obtain rfl : k = rs.length := by omega
      rw [List.take_length] at hI
      obtain ⟨i1, i2, i3⟩ := hI.out
      have y1 := cell_at i1 0 (.map (some (w.heap.size + 1))) rfl
      replace i2 := Lib.hid i2
      clear hI i1 i3
      go_wp2
      go_ret
      exact ⟨_, rfl, i2.out, hF.out⟩
end Go.Proofs.YtdjffkkbjbiihaaGreatDoor
/- depend.Levels, plainly; a map of int32 in memory. -/
namespace Go.Proofs.YtdjffkkbjbiihaaGreatDoor
open Go.RowKit Go.WideMaps Go.Maps
set_option linter.unusedSimpArgs false
set_option linter.unusedVariables false

abbrev tVq : TypeId := 93
theorem zero32 (w : World) : (zeroValue 21).run Tryz.prog w = .ok (.int .i32 0) w := by kernel_rfl
def encQ (l : Nums) : List (ByteArray × Value) := l.map fun x => (x.1, .int .i32 (x.2 : Nat))
theorem encQ_keys (l : Nums) : (encQ l).map (·.1) = l.map (·.1) := by unfold encQ; rw [List.map_map]; rfl
theorem look_q {w : World} {b : Nat} {l : Nums} {s : ByteArray} (h : MapE strV w b (encQ l)) (hs : ∀ x ∈ l, x.1.size ≤ 140737488351232) (hp : s.size ≤ 140737488351232) :
    (Instr.lookup tVq (.map (some b)) (.string s) true).run Tryz.prog w = .ok (.tuple #[.int .i32 (((lkN l s).getD 0 : Nat) : Int), .bool (lkN l s).isSome]) w ∧ (Instr.lookup tVq (.map (some b)) (.string s) false).run Tryz.prog w = .ok (.int .i32 (((lkN l s).getD 0 : Nat) : Int)) w := by
  have hok : ∀ q ∈ encQ l, q.1.size ≤ maxLen := fun q hq => by
    obtain ⟨x, hx, rfl⟩ := List.mem_map.1 hq
    exact Nat.le_trans (hs x hx) (by unfold maxLen; omega)
  have h1 := h.look (t := tVq) keyStr hok Tryz.underlying93 zero32 (x := s) (Nat.le_trans hp (by unfold maxLen; omega))
  have hg : getE (encQ l) s = (lkN l s).map fun n => .int .i32 (n : Nat) := by
    unfold getE encQ lkN
    rw [List.find?_map, Option.map_map, Option.map_map]
    rfl
  rw [hg] at h1
  cases hq : lkN l s with
  | none => rw [hq] at h1; exact ⟨h1.2, h1.1⟩
  | some n => rw [hq] at h1; exact ⟨h1.2, h1.1⟩
theorem push_q {w : World} {b : Nat} {l : Nums} {s : ByteArray} (h : MapE strV w b (encQ l)) (hs : ∀ x ∈ l, x.1.size ≤ 140737488351232) (hp : s.size ≤ 140737488351232) (hn : lkN l s = none) (n : Nat) :
    ∃ w', (Instr.mapUpdate tVq (.map (some b)) (.string s) (.int .i32 (n : Nat))).run Tryz.prog w = .ok () w' ∧ MapE strV w' b (encQ (l ++ [(s, n)])) ∧ w.grownBy w' (some b) := by
  have hok : ∀ q ∈ encQ l, q.1.size ≤ maxLen := fun q hq => by
    obtain ⟨x, hx, rfl⟩ := List.mem_map.1 hq
    exact Nat.le_trans (hs x hx) (by unfold maxLen; omega)
  obtain ⟨w', h1, h2, h3⟩ := h.push (t := tVq) keyStr hok Tryz.underlying93 (x := s) (Nat.le_trans hp (by unfold maxLen; omega)) (fun q hq => by
    obtain ⟨x, hx, rfl⟩ := List.mem_map.1 hq
    exact lkN_none hn x hx) (.int .i32 (n : Nat))
  refine ⟨w', h1, ?_, h3⟩
  have e : encQ (l ++ [(s, n)]) = encQ l ++ [(s, .int .i32 (n : Nat))] := by unfold encQ; rw [List.map_append]; rfl
  rw [e]
  exact h2
theorem put_q {w : World} {b : Nat} {l : Nums} {s : ByteArray} {m : Nat} (h : MapE strV w b (encQ l)) (hs : ∀ x ∈ l, x.1.size ≤ 140737488351232) (hp : s.size ≤ 140737488351232) (hn : lkN l s = some m) (n : Nat) :
    ∃ w', (Instr.mapUpdate tVq (.map (some b)) (.string s) (.int .i32 (n : Nat))).run Tryz.prog w = .ok () w' ∧ MapE strV w' b (encQ (putN l s n)) ∧ w.grownBy w' (some b) := by
  have hok : ∀ q ∈ encQ l, q.1.size ≤ maxLen := fun q hq => by
    obtain ⟨x, hx, rfl⟩ := List.mem_map.1 hq
    exact Nat.le_trans (hs x hx) (by unfold maxLen; omega)
  have hnd : (l.map (·.1)).Nodup := by
    have := h.nodup
    rwa [encQ_keys] at this
  obtain ⟨i, hi⟩ := lkN_at hnd hn
  obtain ⟨w', h1, h2, h3⟩ := h.put (t := tVq) keyStr hok Tryz.underlying93 (x := s) (Nat.le_trans hp (by unfold maxLen; omega)) (j := i) (u := .int .i32 (m : Nat)) (by unfold encQ; rw [List.getElem?_map, hi]; rfl) (.int .i32 (n : Nat))
  refine ⟨w', h1, ?_, h3⟩
  rw [putN_set hnd hi]
  unfold encQ
  rw [List.map_set]
  exact h2
def setN (l : Nums) (s : ByteArray) (n : Nat) : Nums := match lkN l s with
  | none => l ++ [(s, n)]
  | some _ => putN l s n
theorem set_q {w : World} {b : Nat} {l : Nums} {s : ByteArray} (h : MapE strV w b (encQ l)) (hs : ∀ x ∈ l, x.1.size ≤ 140737488351232) (hp : s.size ≤ 140737488351232) (n : Nat) :
    ∃ w', (Instr.mapUpdate tVq (.map (some b)) (.string s) (.int .i32 (n : Nat))).run Tryz.prog w = .ok () w' ∧ MapE strV w' b (encQ (setN l s n)) ∧ w.grownBy w' (some b) := by
  unfold setN
  cases hq : lkN l s with
  | none => exact push_q h hs hp hq n
  | some m => exact put_q h hs hp hq n
/-! ### Plainly -/
def lk0 (l : Nums) (s : ByteArray) : Nat := (lkN l s).getD 0
def Ed.strict (e : Ed) : Bool := !decide (e.k = 1)
def blameE (inn : Nums) (es : List Ed) : Option Ed := es.find? fun e => e.strict && decide (lk0 inn e.f = lk0 inn e.t)
def Ed.wants (e : Ed) (n : Nums) : Nat := if e.strict = true then lk0 n e.t + 1 else lk0 n e.t
def stepR (s : Nums × Bool) (e : Ed) : Nums × Bool := if lk0 s.1 e.f < e.wants s.1 then (setN s.1 e.f (e.wants s.1), true) else s
def roundR (es : List Ed) (n : Nums) : Nums × Bool := es.foldl stepR (n, false)
/-- Rounds until none raises; none: the fuel is out, or a level is too high. -/
def raiseR (es : List Ed) : Nat → Nums → Option Nums
  | 0, _ => none
  | f + 1, n => if (n.all fun x => decide (x.2 ≤ 100000000)) = true then (if (roundR es n).2 = true then raiseR es f (roundR es n).1 else some (roundR es n).1) else none
def Ed.errno (e : Ed) : Int := if e.k = 2 then 90 else if e.k = 3 then 91 else 92
end Go.Proofs.YtdjffkkbjbiihaaGreatDoor
/- depend.Levels where a rule allows none. -/
namespace Go.Proofs.YtdjffkkbjbiihaaGreatDoor
open Go.RowKit Go.WideMaps Go.Maps
set_option linter.unusedSimpArgs false
set_option linter.unusedVariables false

theorem look0 {w : World} {b : Nat} {l : Nums} {s : ByteArray} (h : MapE strV w b (encN l)) (hs : ∀ x ∈ l, x.1.size ≤ 140737488351232) (hp : s.size ≤ 140737488351232) : (Instr.lookup tVm (.map (some b)) (.string s) false).run Tryz.prog w = .ok (.int .i64 (lk0 l s : Nat)) w := (look_num h hs hp).2
theorem ed_to' (rs : List Ru) (hp : ∀ r ∈ rs, ∀ x ∈ r.b, x.p.size ≤ 140737488351232) : ∀ e ∈ edgesP rs, e.t.size ≤ 140737488351232 := fun e he => by
  unfold edgesP at he
  obtain ⟨⟨r, i⟩, hr, he⟩ := List.mem_flatMap.1 he
  unfold Ru.edges at he
  obtain ⟨x, hx, rfl⟩ := List.mem_map.1 he
  have hr2 : r ∈ rs := by
    have := List.mem_zipIdx hr
    obtain ⟨_, _, h3⟩ := this
    rw [h3]
    exact List.getElem_mem _
  exact hp r hr2 x (List.mem_filter.1 hx).1
theorem rus_ok' {M : Nat} {w : World} {v : Value} {rs : List Ru} (h : SlRep 3 M RRu w v rs) : (∀ r ∈ rs, r.p.size ≤ 140737488351232) ∧ ∀ r ∈ rs, ∀ x ∈ r.b, x.p.size ≤ 140737488351232 := by
  refine ⟨fun r hr => ?_, fun r hr x hx => ?_⟩
  · obtain ⟨cs, hv, bv, _, h1, _⟩ := sl_mem h r hr
    exact h1
  · obtain ⟨cs, hv, bv, _, _, _, h2⟩ := sl_mem h r hr
    obtain ⟨cs', hr'⟩ := sl_mem h2 x hx
    obtain ⟨_, _, _, _, _, _, _, _, _, _, _, hc⟩ := lt_cs hr'
    exact hc.pw
theorem infoEdZ' : (Tryz.prog.info? 92).map (fun i => (i.zero, i.size)) = some (some (.agg #[.string ⟨#[]⟩, .string ⟨#[]⟩, .int .i8 0, .int .i64 0]), 4) := by kernel_rfl
theorem ed_at' {M : Nat} {w : World} {A : Option Addr} {n cap : Nat} {xs : List Ed} (h : SlRep 4 M REd w (.slice A n cap) xs) {k : Nat} (hk : k < xs.length) :
    ∃ b off, A = some ⟨b, off, none⟩ ∧ ∀ j v, ([.string (xs[k]).f, .string (xs[k]).t, .int .i8 (xs[k]).k, .int .i64 (xs[k]).r] : List Value)[j]? = some v → w.cell? ⟨b, off + k * 4 + j, none⟩ = some v := by
  obtain ⟨A1, cap1, hv, _, _, h3⟩ := h
  obtain ⟨b, off, cs, hA, hl, hc, hr⟩ := h3 k _ (List.getElem?_eq_getElem hk)
  injection hv with hv _ _
  obtain rfl : cs = _ := hr
  exact ⟨b, off, hv.trans hA, fun j v hj => by rw [Nat.add_assoc]; exact hc j v hj⟩
theorem gri_base {B B' mb : Nat} {W : World} {G : Gr} (h : GrI B W mb G) (hB : B' ≤ B) : GrI B' W mb G := by
  obtain ⟨vs, h1, h2, h3, h4, h5, h6⟩ := h
  exact ⟨vs, h1, h2, fun i v x a b => (h3 i v x a b).base hB, h4, h5, Nat.le_trans hB h6⟩
theorem edgeP_ok {M : Nat} {w : World} {v : Value} {rs : List Ru} (h : SlRep 3 M RRu w v rs) : ∀ e ∈ edgesP rs, e.f.size ≤ 140737488351232 ∧ e.t.size ≤ 140737488351232 := fun e he => by
  refine ⟨?_, ed_to' rs (rus_ok' h).2 e he⟩
  unfold edgesP at he
  obtain ⟨⟨r, i⟩, hr, he⟩ := List.mem_flatMap.1 he
  unfold Ru.edges at he
  obtain ⟨x, hx, rfl⟩ := List.mem_map.1 he
  have hr2 : r ∈ rs := by
    obtain ⟨_, _, h3⟩ := List.mem_zipIdx hr
    rw [h3]
    exact List.getElem_mem _
  exact (rus_ok' h).1 r hr2
set_option maxHeartbeats 4000000 in
set_option maxRecDepth 100000 in
theorem levelsB_any {M : Nat} (A : Option Addr) (c : Nat) (rs : List Ru) (w : World) (h : SlRep 3 M RRu w (.slice A rs.length c) rs) (hM : M ≤ 9223372036854775807) (hS : Small rs) (N : Nat) (T : TS) (hT : tarjT (drawP rs) N = some T) (hGl : (drawP rs).length ≤ 100000000) (x : Ed) (hx : blameE T.inn (edgesP rs) = some x) :
    Calls Tryz.prog 8 #[.agg #[.slice A rs.length c]] w fun e w' => e = .returned (.tuple #[.slice none 0 0, .int .i64 x.r, .int .i64 x.errno]) ∧ Fut w w' := by
  obtain ⟨_, _, hv, hl1, hl2⟩ := h.form
  have hxl : rs.length ≤ 9223372036854775807 := by omega
  have HE := Lib.hid (fun W (hW : Fut w W) => edges_any A c rs W (h.fut RRu.stays hW) hM hS)
  have HD := Lib.hid (fun W (hW : Fut w W) => draw_any A c rs W (h.fut RRu.stays hW) hM hS)
  have HO := Lib.hid (edgeP_ok h)
  have HN := hS.edges
  have hbx := heap_alloc_new w (.cells #[.slice A rs.length c] 31)
  have F0 := Lib.hid (Fut.alloc w (.cells #[.slice A rs.length c] 31))
  have c0 := cell_at hbx 0 (.slice A rs.length c) rfl
  have hT' := Lib.hid hT
  have hGl' := Lib.hid hGl
  have hx' := Lib.hid hx
  clear h hS hl1 hl2 hv hbx hT hGl hx
  go_enter Tryz.func8, Tryz.ntmps8
  go_wp2_with fail
  go_step3
  go_wp2_with fail
  refine wp_graph 4 [.d, .r (fun v W => OwnL 4 w.heap.size tEdge REd W v (edgesP rs)), .d, .r (fun v W => ∃ mb, v = .map (some mb) ∧ GrI w.heap.size W mb (drawP rs))] (by kernel_rfl) (by kernel_rfl) (by kernel_rfl) ?_
  simp only [List.take_succ_cons, List.take_zero, List.drop_succ_cons, List.drop_zero, Exs]
  iterate 2 apply Exists.intro
  apply Run.valG (wanted_none rfl _)
  · intro w1 h1 hk
    have q0 := h1.cell c0; have hg := F0.out.trans ((Fut.drew _).trans h1); have hgs := hg.size
    have hcw := fun b o => Below.cell (p := ⟨b, o, none⟩) h1
    go_simp; rfl
  simp only [Act.put, List.setIfInBounds_toArray, List.set_cons_succ, List.set_cons_zero, List.nil_append, List.cons_append]
  apply Run.callR (wanted_none rfl _) (by intro v w w' hf hs; exact hs.fut REd.stays hf) (fun _ _ => by go_simp; exact ⟨rfl, rfl⟩)
  · intro w1 h1 hk
    have q0 := h1.cell c0; have hg := F0.out.trans ((Fut.drew _).trans h1); have hgs := hg.size
    refine (HE.out _ hg).mono ?_; rintro e w' ⟨v, rfl, ho, hf⟩; exact ⟨_, rfl, hf, ho.base hgs⟩
  intro v1
  simp only [Act.put, List.setIfInBounds_toArray, List.set_cons_succ, List.set_cons_zero, List.nil_append, List.cons_append]
  apply Run.valG (wanted_none rfl _)
  · intro w1 h1 hk
    have q0 := h1.cell c0; have hg := F0.out.trans ((Fut.drew _).trans h1); have hgs := hg.size
    have hcw := fun b o => Below.cell (p := ⟨b, o, none⟩) h1
    go_simp; rfl
  simp only [Act.put, List.setIfInBounds_toArray, List.set_cons_succ, List.set_cons_zero, List.nil_append, List.cons_append]
  apply Run.callR (wanted_none rfl _) (by intro v w w' hf hs; exact (by obtain ⟨mb, g1, g2⟩ := hs; exact ⟨mb, g1, g2.fut hf⟩)) (fun _ _ => by go_simp; exact ⟨rfl, rfl⟩)
  · intro w1 h1 hk
    have f1 := Facts.get hk 0 rfl (by kernel_rfl)
    have q0 := h1.cell c0; have hg := F0.out.trans ((Fut.drew _).trans h1); have hgs := hg.size
    refine (HD.out _ hg).mono ?_; rintro e w' ⟨mb, rfl, ho, hf⟩; exact ⟨_, rfl, hf, mb, rfl, gri_base ho hgs⟩
  intro v3
  simp only [Act.put, List.setIfInBounds_toArray, List.set_cons_succ, List.set_cons_zero, List.nil_append, List.cons_append]
  apply Run.done
  intro w2 h2 hk
  obtain ⟨f1, f3, _⟩ := hk
  obtain ⟨Ae, ce, rfl, hel1, hel2⟩ := f1.rep.form
  obtain ⟨mb, rfl, hG⟩ := f3
  have FE := Lib.hid (F0.out.trans ((Fut.drew _).trans h2))
  have HOw := Lib.hid f1
  have HP := Lib.hid (parts_any N T w2 hG hGl'.out hT'.out)
  clear h2 f1 hG c0
  go_wp2_with fail
  refine HP.out.mono ?_
  rintro e w3 ⟨imb, ov, rfl, hm, hms, ho, f3⟩
  have HM := Lib.hid hm
  have HMS := Lib.hid hms
  have F3 := Lib.hid (FE.out.trans f3)
  have HO3 := Lib.hid (HOw.out.fut REd.stays f3)
  clear hm hms ho f3 HP HOw
  unfold blameE at hx'
  obtain ⟨es, hes⟩ : ∃ es, edgesP rs = es := ⟨_, rfl⟩
  rw [hes] at hx' HO3 HN HO
  rw [hes]
  clear hes HE HD
  go_wp2_with fail
  go_loopw [30] (fun i wr => ∃ k : Nat, k ≤ es.length ∧ i = .int .i64 k ∧ Hid (Fut w3 wr) ∧ Hid (∀ e ∈ es.take k, (e.strict && decide (lk0 T.inn e.f = lk0 T.inn e.t)) = false)) (fun i _ => es.length - (intOf i).toNat)
  case atStart => exact ⟨0, Nat.zero_le _, rfl, Lib.hid (Fut.refl _), Lib.hid (fun r hr => by simp at hr)⟩
  case round =>
    obtain ⟨k, hk, rfl, hF, hA⟩ := hrel
    by_cases hlt : k < es.length
    · have hltI : (k : Int) < es.length := by omega
      have e0 : (0 : Int) ≤ k ∧ (k : Int) < es.length := by omega
      obtain ⟨b', off, rfl, hcs⟩ := ed_at' (HO3.out.fut REd.stays hF.out).rep hlt
      have htk := Lib.hid (List.take_succ_eq_append_getElem hlt)
      have hmem := Lib.hid (List.getElem_mem hlt)
      have hsz := HO.out _ hmem.out
      obtain ⟨y, hyk⟩ : ∃ y, es[k] = y := ⟨_, rfl⟩
      rw [hyk] at hcs htk hmem hsz
      replace hyk := Lib.hid hyk
      obtain ⟨w4, hw4⟩ : ∃ W, wr.alloc (.cells [.string y.f, .string y.t, .int .i8 y.k, .int .i64 y.r].toArray 92) = W := ⟨_, rfl⟩
      have f1 : Fut wr w4 := by rw [← hw4]; exact Fut.alloc _ _
      have hrb : w4.heap[wr.heap.size]? = some (.cells #[.string y.f, .string y.t, .int .i8 y.k, .int .i64 y.r] 92 (0, 0)) := by rw [← hw4]; exact heap_alloc_new wr _
      have q0 := cell_at hrb 0 (.string y.f) rfl
      have q1 := cell_at hrb 1 (.string y.t) rfl
      have q2 := cell_at hrb 2 (.int .i8 y.k) rfl
      have q3 := cell_at hrb 3 (.int .i64 y.r) rfl
      have hm4 := HM.out.fut (hF.out.trans f1)
      have l1 := look0 hm4 HMS.out hsz.1
      have l2 := look0 hm4 HMS.out hsz.2
      have hone : ∀ v ∈ ([.string y.f, .string y.t, .int .i8 y.k, .int .i64 y.r] : List Value), v.oneCell' = true := fun v hv => by
        simp only [List.mem_cons, List.not_mem_nil, or_false] at hv
        rcases hv with rfl | rfl | rfl | rfl <;> rfl
      have hw4h := Lib.hid hw4
      have hcs9 := Lib.hid hcs
      have FN := Lib.hid (hF.out.trans f1)
      clear hw4 f1 hrb hcs hsz hm4
      have next : (y.strict && decide (lk0 T.inn y.f = lk0 T.inn y.t)) = false → Hid (∀ e ∈ es.take (k + 1), (e.strict && decide (lk0 T.inn e.f = lk0 T.inn e.t)) = false) := fun hy => Lib.hid fun z hz => by
        rw [htk.out, List.mem_append] at hz
        rcases hz with hz | hz
        · exact hA.out z hz
        · rw [List.mem_singleton] at hz; subst hz; exact hy
      by_cases e1 : y.k = 1
      · have HA4 := next (by unfold Ed.strict; rw [e1]; rfl)
        clear next
        go_wp2_with (first | (refine wpList_rangeBox [.string y.f, .string y.t, .int .i8 y.k, .int .i64 y.r] rfl rfl rfl rfl rfl rfl rfl hcs9.out Tryz.underlying92 infoEdZ' rfl hone rfl rfl hw4h.out ?_))
        go_roundw
        case rel => exact ⟨k + 1, by omega, by go_num, FN, HA4⟩
        case measure => simp [intOf] <;> omega
      · by_cases e2 : lk0 T.inn y.f = lk0 T.inn y.t
        · have hyx : x = y := by
            have hsp := List.take_append_drop k es
            have h8 : es.drop k = y :: es.drop (k + 1) := by
              rw [List.drop_eq_getElem_cons hlt, hyk.out]
            have h9 := hx'.out
            rw [← hsp, List.find?_append, h8, List.find?_eq_none.2 (fun z hz => by rw [hA.out z hz]; decide), List.find?_cons_of_pos (by unfold Ed.strict; rw [decide_eq_false e1, decide_eq_true e2]; rfl)] at h9
            exact (Option.some.inj h9).symm
          replace hyx := Lib.hid hyx
          have hex := hyx.out.symm
          clear next
          generalize lk0 T.inn y.f = n1 at *
          generalize lk0 T.inn y.t = n2 at *
          subst e2
          by_cases e8 : y.k = 2
          · have hen : y.errno = 90 := by unfold Ed.errno; rw [if_pos e8]
            replace hen := Lib.hid hen
            replace hex := Lib.hid hex
            go_wp2_with (first | (refine wpList_rangeBox [.string y.f, .string y.t, .int .i8 y.k, .int .i64 y.r] rfl rfl rfl rfl rfl rfl rfl hcs9.out Tryz.underlying92 infoEdZ' rfl hone rfl rfl hw4h.out ?_))
            refine wp_graph 5 [.d, .d, .d, .d, .d] (by kernel_rfl) (by kernel_rfl) (by kernel_rfl) ?_
            simp only [List.take_succ_cons, List.take_zero, List.drop_succ_cons, List.drop_zero, Exs]
            iterate 5 apply Exists.intro
            apply Run.valG (wanted_none rfl _)
            · intro w1 h1 hk
              have r3 := h1.cell q3
              have hcw := fun b o => Below.cell (p := ⟨b, o, none⟩) h1
              go_simp; rfl
            simp only [Act.put, List.setIfInBounds_toArray, List.set_cons_succ, List.set_cons_zero, List.nil_append, List.cons_append]
            apply Run.valG (wanted_none rfl _)
            · intro w1 h1 hk
              have r3 := h1.cell q3
              have hcw := fun b o => Below.cell (p := ⟨b, o, none⟩) h1
              go_simp; rfl
            simp only [Act.put, List.setIfInBounds_toArray, List.set_cons_succ, List.set_cons_zero, List.nil_append, List.cons_append]
            apply Run.valG (wanted_none rfl _)
            · intro w1 h1 hk
              have r3 := h1.cell q3
              have hcw := fun b o => Below.cell (p := ⟨b, o, none⟩) h1
              go_simp; rfl
            simp only [Act.put, List.setIfInBounds_toArray, List.set_cons_succ, List.set_cons_zero, List.nil_append, List.cons_append]
            apply Run.valG (wanted_none rfl _)
            · intro w1 h1 hk
              have r3 := h1.cell q3
              have hcw := fun b o => Below.cell (p := ⟨b, o, none⟩) h1
              go_simp; rfl
            simp only [Act.put, List.setIfInBounds_toArray, List.set_cons_succ, List.set_cons_zero, List.nil_append, List.cons_append]
            apply Run.valG (wanted_none rfl _)
            · intro w1 h1 hk
              have r3 := h1.cell q3
              have hcw := fun b o => Below.cell (p := ⟨b, o, none⟩) h1
              go_simp; rfl
            simp only [Act.put, List.setIfInBounds_toArray, List.set_cons_succ, List.set_cons_zero, List.nil_append, List.cons_append]
            apply Run.done
            intro w2 h2 hk
            clear hk
            have F9 := (F3.out.trans FN.out).trans ((Fut.drew _).trans h2)
            clear h2
            go_wp2
            (try rw [Exit.noGoto_ret])
            (try simp only [Exit.inBlock, Exit.then])
            (try rw [Exit.noGoto_ret])
            refine bodyPost_ret (v := .tuple #[.slice none 0 0, .int .i64 y.r, .int .i64 90]) (by simp [results, Tryz.results8, go_sem]) rfl ?_
            exact ⟨by rw [← hex.out, hen.out], F9⟩
          · by_cases e9 : y.k = 3
            · have hen : y.errno = 91 := by unfold Ed.errno; rw [if_neg e8, if_pos e9]
              replace hen := Lib.hid hen
              replace hex := Lib.hid hex
              go_wp2_with (first | (refine wpList_rangeBox [.string y.f, .string y.t, .int .i8 y.k, .int .i64 y.r] rfl rfl rfl rfl rfl rfl rfl hcs9.out Tryz.underlying92 infoEdZ' rfl hone rfl rfl hw4h.out ?_))
              refine wp_graph 5 [.d, .d, .d, .d, .d] (by kernel_rfl) (by kernel_rfl) (by kernel_rfl) ?_
              simp only [List.take_succ_cons, List.take_zero, List.drop_succ_cons, List.drop_zero, Exs]
              iterate 5 apply Exists.intro
              apply Run.valG (wanted_none rfl _)
              · intro w1 h1 hk
                have r3 := h1.cell q3
                have hcw := fun b o => Below.cell (p := ⟨b, o, none⟩) h1
                go_simp; rfl
              simp only [Act.put, List.setIfInBounds_toArray, List.set_cons_succ, List.set_cons_zero, List.nil_append, List.cons_append]
              apply Run.valG (wanted_none rfl _)
              · intro w1 h1 hk
                have r3 := h1.cell q3
                have hcw := fun b o => Below.cell (p := ⟨b, o, none⟩) h1
                go_simp; rfl
              simp only [Act.put, List.setIfInBounds_toArray, List.set_cons_succ, List.set_cons_zero, List.nil_append, List.cons_append]
              apply Run.valG (wanted_none rfl _)
              · intro w1 h1 hk
                have r3 := h1.cell q3
                have hcw := fun b o => Below.cell (p := ⟨b, o, none⟩) h1
                go_simp; rfl
              simp only [Act.put, List.setIfInBounds_toArray, List.set_cons_succ, List.set_cons_zero, List.nil_append, List.cons_append]
              apply Run.valG (wanted_none rfl _)
              · intro w1 h1 hk
                have r3 := h1.cell q3
                have hcw := fun b o => Below.cell (p := ⟨b, o, none⟩) h1
                go_simp; rfl
              simp only [Act.put, List.setIfInBounds_toArray, List.set_cons_succ, List.set_cons_zero, List.nil_append, List.cons_append]
              apply Run.valG (wanted_none rfl _)
              · intro w1 h1 hk
                have r3 := h1.cell q3
                have hcw := fun b o => Below.cell (p := ⟨b, o, none⟩) h1
                go_simp; rfl
              simp only [Act.put, List.setIfInBounds_toArray, List.set_cons_succ, List.set_cons_zero, List.nil_append, List.cons_append]
              apply Run.done
              intro w2 h2 hk
              clear hk
              have F9 := (F3.out.trans FN.out).trans ((Fut.drew _).trans h2)
              clear h2
              go_wp2
              (try rw [Exit.noGoto_ret])
              (try simp only [Exit.inBlock, Exit.then])
              (try rw [Exit.noGoto_ret])
              refine bodyPost_ret (v := .tuple #[.slice none 0 0, .int .i64 y.r, .int .i64 91]) (by simp [results, Tryz.results8, go_sem]) rfl ?_
              exact ⟨by rw [← hex.out, hen.out], F9⟩
            · have hen : y.errno = 92 := by unfold Ed.errno; rw [if_neg e8, if_neg e9]
              replace hen := Lib.hid hen
              replace hex := Lib.hid hex
              go_wp2_with (first | (refine wpList_rangeBox [.string y.f, .string y.t, .int .i8 y.k, .int .i64 y.r] rfl rfl rfl rfl rfl rfl rfl hcs9.out Tryz.underlying92 infoEdZ' rfl hone rfl rfl hw4h.out ?_))
              refine wp_graph 5 [.d, .d, .d, .d, .d] (by kernel_rfl) (by kernel_rfl) (by kernel_rfl) ?_
              simp only [List.take_succ_cons, List.take_zero, List.drop_succ_cons, List.drop_zero, Exs]
              iterate 5 apply Exists.intro
              apply Run.valG (wanted_none rfl _)
              · intro w1 h1 hk
                have r3 := h1.cell q3
                have hcw := fun b o => Below.cell (p := ⟨b, o, none⟩) h1
                go_simp; rfl
              simp only [Act.put, List.setIfInBounds_toArray, List.set_cons_succ, List.set_cons_zero, List.nil_append, List.cons_append]
              apply Run.valG (wanted_none rfl _)
              · intro w1 h1 hk
                have r3 := h1.cell q3
                have hcw := fun b o => Below.cell (p := ⟨b, o, none⟩) h1
                go_simp; rfl
              simp only [Act.put, List.setIfInBounds_toArray, List.set_cons_succ, List.set_cons_zero, List.nil_append, List.cons_append]
              apply Run.valG (wanted_none rfl _)
              · intro w1 h1 hk
                have r3 := h1.cell q3
                have hcw := fun b o => Below.cell (p := ⟨b, o, none⟩) h1
                go_simp; rfl
              simp only [Act.put, List.setIfInBounds_toArray, List.set_cons_succ, List.set_cons_zero, List.nil_append, List.cons_append]
              apply Run.valG (wanted_none rfl _)
              · intro w1 h1 hk
                have r3 := h1.cell q3
                have hcw := fun b o => Below.cell (p := ⟨b, o, none⟩) h1
                go_simp; rfl
              simp only [Act.put, List.setIfInBounds_toArray, List.set_cons_succ, List.set_cons_zero, List.nil_append, List.cons_append]
              apply Run.valG (wanted_none rfl _)
              · intro w1 h1 hk
                have r3 := h1.cell q3
                have hcw := fun b o => Below.cell (p := ⟨b, o, none⟩) h1
                go_simp; rfl
              simp only [Act.put, List.setIfInBounds_toArray, List.set_cons_succ, List.set_cons_zero, List.nil_append, List.cons_append]
              apply Run.done
              intro w2 h2 hk
              clear hk
              have F9 := (F3.out.trans FN.out).trans ((Fut.drew _).trans h2)
              clear h2
              go_wp2
              (try rw [Exit.noGoto_ret])
              (try simp only [Exit.inBlock, Exit.then])
              (try rw [Exit.noGoto_ret])
              refine bodyPost_ret (v := .tuple #[.slice none 0 0, .int .i64 y.r, .int .i64 92]) (by simp [results, Tryz.results8, go_sem]) rfl ?_
              exact ⟨by rw [← hex.out, hen.out], F9⟩
        · have HA4 := next (by rw [decide_eq_false e2, Bool.and_false])
          generalize lk0 T.inn y.f = n1 at *
          generalize lk0 T.inn y.t = n2 at *
          have e3 : ¬ (n1 : Int) = (n2 : Int) := by omega
          have e4 : ((n1 : Int) == (n2 : Int)) = false := by rw [beq_eq_false_iff_ne]; exact e3
          have e5 : ((n1 : Int) != (n2 : Int)) = true := by simp [bne, e4]
          have e6 : (n1 == n2) = false := by rw [beq_eq_false_iff_ne]; exact e2
          have e7 : (n1 != n2) = true := by simp [bne, e6]
          clear next
          go_wp2_with (first | (refine wpList_rangeBox [.string y.f, .string y.t, .int .i8 y.k, .int .i64 y.r] rfl rfl rfl rfl rfl rfl rfl hcs9.out Tryz.underlying92 infoEdZ' rfl hone rfl rfl hw4h.out ?_))
          go_roundw
          case rel => exact ⟨k + 1, by omega, by go_num, FN, HA4⟩
          case measure => simp [intOf] <;> omega
    · exfalso
      obtain rfl : k = es.length := by omega
      have h1 := List.find?_some hx'.out
      have h2 := hA.out x (by rw [List.take_length]; exact List.mem_of_find?_eq_some hx'.out)
      rw [h1] at h2
      cases h2
end Go.Proofs.YtdjffkkbjbiihaaGreatDoor
