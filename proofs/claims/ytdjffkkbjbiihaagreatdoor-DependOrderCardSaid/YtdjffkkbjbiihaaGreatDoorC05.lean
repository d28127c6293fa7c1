/- Parts2, TwEx, TwLx -/
import Derived.Test.YtdjffkkbjbiihaaGreatDoorC04
/- literalParts, RuleParts, BeyondRules. -/
namespace Go.Proofs.YtdjffkkbjbiihaaGreatDoor
open Go.RowKit
set_option linter.unusedSimpArgs false
set_option linter.unusedVariables false

def Ex.op : Ex → Int
  | .mk op _ _ => op
def Ex.t : Ex → Tm
  | .mk _ t _ => t
def Ex.cs (x : Ex) (kv : Value) : List Value := [.int .i8 x.op, .string x.t.v, .int .i8 x.t.x.k, .int .i64 x.t.x.n, .string x.t.x.s, kv]
theorem ex_cs {w : World} {cs : List Value} {x : Ex} (h : RX w cs x) : ∃ n A l c, cs = x.cs (.slice A l c) ∧ RE n w (x.cs (.slice A l c)) x := by
  obtain ⟨n, h⟩ := h
  obtain ⟨m, op, t, ks, A, c, hn, rfl, rfl, h1, h2, h3⟩ := ex_form h
  exact ⟨n, A, ks.length, c, rfl, h⟩
def Lt.cs (x : Lt) (av kl kd : Value) : List Value := [.int .i8 x.k, .string x.p, av, .int .i8 x.r, .int .i8 x.l.op, .string x.l.t.v, .int .i8 x.l.t.x.k, .int .i64 x.l.t.x.n, .string x.l.t.x.s, kl, .int .i8 x.d.op, .string x.d.t.v, .int .i8 x.d.t.x.k, .int .i64 x.d.t.x.n, .string x.d.t.x.s, kd]
/-- A literal's cells, told. -/
structure LtC (w : World) (x : Lt) (av kl kd : Value) : Prop where
  args : SlRep 4 2932031007402 RTm w av x.a
  left : ∃ n, RE n w (x.l.cs kl) x.l
  right : ∃ n, RE n w (x.d.cs kd) x.d
  kw : (Lit.int .i8 x.k).wf = true
  rw' : (Lit.int .i8 x.r).wf = true
  pw : x.p.size ≤ 140737488351232
theorem lt_cs {w : World} {cs : List Value} {x : Lt} (h : RLt w cs x) : ∃ A c Al l cl Ad d cd, cs = x.cs (.slice A x.a.length c) (.slice Al l cl) (.slice Ad d cd) ∧ x.a.length ≤ c ∧ c ≤ 2932031007402 ∧ LtC w x (.slice A x.a.length c) (.slice Al l cl) (.slice Ad d cd) := by
  obtain ⟨av, cl, cd, h1, _, _, h4, h5, h6, h7, h8, h9⟩ := h
  obtain ⟨n1, Al, l1, c1, rfl, e1⟩ := ex_cs h8
  obtain ⟨n2, Ad, l2, c2, rfl, e2⟩ := ex_cs h9
  obtain ⟨A, c, rfl, g1, g2⟩ := h7.form
  exact ⟨A, c, Al, l1, c1, Ad, l2, c2, h1, g1, g2, h7, ⟨n1, e1⟩, ⟨n2, e2⟩, h4, h5, h6⟩
theorem LtC.fut {w w' : World} {x : Lt} {av kl kd : Value} (h : LtC w x av kl kd) (hf : Fut w w') : LtC w' x av kl kd :=
  ⟨h.args.fut RTm.stays hf, by obtain ⟨n, e⟩ := h.left; exact ⟨n, RE.stays n _ _ _ _ hf e⟩, by obtain ⟨n, e⟩ := h.right; exact ⟨n, RE.stays n _ _ _ _ hf e⟩, h.kw, h.rw', h.pw⟩
def Lt.parts (x : Lt) : Nat := 1 + x.a.length + x.l.size + x.d.size
def Lt.flat (x : Lt) : Prop := x.l.depth ≤ 65537 ∧ x.d.depth ≤ 65537
def Ru.parts (r : Ru) : Nat := 1 + r.h.length + (r.b.map Lt.parts).sum
def Ru.flat (r : Ru) : Prop := ∀ x ∈ r.b, x.flat
set_option maxHeartbeats 2000000 in
set_option maxRecDepth 100000 in
theorem literalParts_any (x : Lt) (A : Option Addr) (c : Nat) (kl kd : Value) (left : Nat) (w : World) (h : LtC w x (.slice A x.a.length c) kl kd) (hc : c ≤ 2932031007402) (hcl : x.a.length ≤ c) (hleft : left ≤ 1048576) :
    Calls Tryz.prog 74 #[.agg (x.cs (.slice A x.a.length c) kl kd).toArray, .int .i64 left] w fun e w' => ∃ r : Nat, e = .returned (.int .i64 r) ∧ (r = left + 1 ∨ (r = x.parts ∧ r ≤ left ∧ x.flat)) ∧ Fut w w' := by
  have HL := Lib.hid h
  have hP := Lib.hid (rfl : x.parts = 1 + x.a.length + x.l.size + x.d.size)
  have hFl := Lib.hid (Iff.rfl : x.flat ↔ x.l.depth ≤ 65537 ∧ x.d.depth ≤ 65537)
  have HE1 := Lib.hid (fun (W : World) (hW : Fut w W) (lf : Nat) (hlf : lf ≤ 1048576) => by obtain ⟨n, e⟩ := (h.fut hW).left; exact exprParts_any x.l _ _ kl lf W e hlf)
  have HE2 := Lib.hid (fun (W : World) (hW : Fut w W) (lf : Nat) (hlf : lf ≤ 1048576) => by obtain ⟨n, e⟩ := (h.fut hW).right; exact exprParts_any x.d _ _ kd lf W e hlf)
  clear h
  obtain ⟨xk, xp, xa, xr, xl, xd⟩ := x
  unfold Lt.cs
  go_enter Tryz.func74, Tryz.ntmps74
  go_wp2_with fail
  have hb := heap_alloc_new w (.cells #[.int .i8 xk, .string xp, .slice A xa.length c, .int .i8 xr, .int .i8 xl.op, .string xl.t.v, .int .i8 xl.t.x.k, .int .i64 xl.t.x.n, .string xl.t.x.s, kl, .int .i8 xd.op, .string xd.t.v, .int .i8 xd.t.x.k, .int .i64 xd.t.x.n, .string xd.t.x.s, kd] 119)
  have hF := Fut.alloc w (.cells #[.int .i8 xk, .string xp, .slice A xa.length c, .int .i8 xr, .int .i8 xl.op, .string xl.t.v, .int .i8 xl.t.x.k, .int .i64 xl.t.x.n, .string xl.t.x.s, kl, .int .i8 xd.op, .string xd.t.v, .int .i8 xd.t.x.k, .int .i64 xd.t.x.n, .string xd.t.x.s, kd] 119)
  obtain ⟨w1, hw1⟩ : ∃ W, w.alloc (.cells #[.int .i8 xk, .string xp, .slice A xa.length c, .int .i8 xr, .int .i8 xl.op, .string xl.t.v, .int .i8 xl.t.x.k, .int .i64 xl.t.x.n, .string xl.t.x.s, kl, .int .i8 xd.op, .string xd.t.v, .int .i8 xd.t.x.k, .int .i64 xd.t.x.n, .string xd.t.x.s, kd] 119) = W := ⟨_, rfl⟩
  rw [hw1] at hb hF ⊢
  clear hw1
  have FB := Lib.hid hF
  clear hF
  have y2 := cell_at hb 2 (.slice A xa.length c) rfl
  have y4 := cell_at hb 4 (.int .i8 xl.op) rfl
  have y5 := cell_at hb 5 (.string xl.t.v) rfl
  have y6 := cell_at hb 6 (.int .i8 xl.t.x.k) rfl
  have y7 := cell_at hb 7 (.int .i64 xl.t.x.n) rfl
  have y8 := cell_at hb 8 (.string xl.t.x.s) rfl
  have y9 := cell_at hb 9 kl rfl
  have z0 := cell_at hb 10 (.int .i8 xd.op) rfl
  have z1 := cell_at hb 11 (.string xd.t.v) rfl
  have z2 := cell_at hb 12 (.int .i8 xd.t.x.k) rfl
  have z3 := cell_at hb 13 (.int .i64 xd.t.x.n) rfl
  have z4 := cell_at hb 14 (.string xd.t.x.s) rfl
  have z5 := cell_at hb 15 kd rfl
  clear hb
  replace hcl : xa.length ≤ c := hcl
  have hwa : IntKind.i64.wrap (1 + (xa.length : Int)) = ((1 + xa.length : Nat) : Int) := by rw [IntKind.wrap_i64]; omega
  refine wp_graph 9 [.d, .d, .d, .d, .d, .d, .d, .d, .r (fun v w' => ∃ r : Nat, v = .int .i64 r ∧ (r = left + 1 ∨ (r = xl.size ∧ r ≤ left ∧ xl.depth ≤ 65537)))] (by kernel_rfl) (by kernel_rfl) (by kernel_rfl) ?_
  simp only [List.take_succ_cons, List.take_zero, List.drop_succ_cons, List.drop_zero, Exs]
  iterate 8 apply Exists.intro
  apply Run.valG (wanted_none rfl _)
  · intro w1 h1 hk
    have q2 := h1.cell y2; have q4 := h1.cell y4; have q5 := h1.cell y5; have q6 := h1.cell y6; have q7 := h1.cell y7; have q8 := h1.cell y8; have q9 := h1.cell y9; have hg := (Fut.drew _).trans h1
    have hcw := fun b o => Below.cell (p := ⟨b, o, none⟩) h1
    go_simp; rfl
  simp only [Act.put, List.setIfInBounds_toArray, List.set_cons_succ, List.set_cons_zero, List.nil_append, List.cons_append]
  apply Run.valG (wanted_none rfl _)
  · intro w1 h1 hk
    have q2 := h1.cell y2; have q4 := h1.cell y4; have q5 := h1.cell y5; have q6 := h1.cell y6; have q7 := h1.cell y7; have q8 := h1.cell y8; have q9 := h1.cell y9; have hg := (Fut.drew _).trans h1
    have hcw := fun b o => Below.cell (p := ⟨b, o, none⟩) h1
    go_simp; rfl
  simp only [Act.put, List.setIfInBounds_toArray, List.set_cons_succ, List.set_cons_zero, List.nil_append, List.cons_append]
  apply Run.valG (wanted_none rfl _)
  · intro w1 h1 hk
    have q2 := h1.cell y2; have q4 := h1.cell y4; have q5 := h1.cell y5; have q6 := h1.cell y6; have q7 := h1.cell y7; have q8 := h1.cell y8; have q9 := h1.cell y9; have hg := (Fut.drew _).trans h1
    have hcw := fun b o => Below.cell (p := ⟨b, o, none⟩) h1
    go_simp; rfl
  simp only [Act.put, List.setIfInBounds_toArray, List.set_cons_succ, List.set_cons_zero, List.nil_append, List.cons_append]
  apply Run.valG (wanted_none rfl _)
  · intro w1 h1 hk
    have q2 := h1.cell y2; have q4 := h1.cell y4; have q5 := h1.cell y5; have q6 := h1.cell y6; have q7 := h1.cell y7; have q8 := h1.cell y8; have q9 := h1.cell y9; have hg := (Fut.drew _).trans h1
    have hcw := fun b o => Below.cell (p := ⟨b, o, none⟩) h1
    go_simp; rfl
  simp only [Act.put, List.setIfInBounds_toArray, List.set_cons_succ, List.set_cons_zero, List.nil_append, List.cons_append]
  apply Run.valG (wanted_none rfl _)
  · intro w1 h1 hk
    have q2 := h1.cell y2; have q4 := h1.cell y4; have q5 := h1.cell y5; have q6 := h1.cell y6; have q7 := h1.cell y7; have q8 := h1.cell y8; have q9 := h1.cell y9; have hg := (Fut.drew _).trans h1
    have hcw := fun b o => Below.cell (p := ⟨b, o, none⟩) h1
    go_simp; rfl
  simp only [Act.put, List.setIfInBounds_toArray, List.set_cons_succ, List.set_cons_zero, List.nil_append, List.cons_append]
  apply Run.valG (wanted_none rfl _)
  · intro w1 h1 hk
    have q2 := h1.cell y2; have q4 := h1.cell y4; have q5 := h1.cell y5; have q6 := h1.cell y6; have q7 := h1.cell y7; have q8 := h1.cell y8; have q9 := h1.cell y9; have hg := (Fut.drew _).trans h1
    have hcw := fun b o => Below.cell (p := ⟨b, o, none⟩) h1
    go_simp; rfl
  simp only [Act.put, List.setIfInBounds_toArray, List.set_cons_succ, List.set_cons_zero, List.nil_append, List.cons_append]
  apply Run.valG (wanted_none rfl _)
  · intro w1 h1 hk
    have q2 := h1.cell y2; have q4 := h1.cell y4; have q5 := h1.cell y5; have q6 := h1.cell y6; have q7 := h1.cell y7; have q8 := h1.cell y8; have q9 := h1.cell y9; have hg := (Fut.drew _).trans h1
    have hcw := fun b o => Below.cell (p := ⟨b, o, none⟩) h1
    go_simp; rfl
  simp only [Act.put, List.setIfInBounds_toArray, List.set_cons_succ, List.set_cons_zero, List.nil_append, List.cons_append]
  apply Run.valG (wanted_none rfl _)
  · intro w1 h1 hk
    have q2 := h1.cell y2; have q4 := h1.cell y4; have q5 := h1.cell y5; have q6 := h1.cell y6; have q7 := h1.cell y7; have q8 := h1.cell y8; have q9 := h1.cell y9; have hg := (Fut.drew _).trans h1
    have hcw := fun b o => Below.cell (p := ⟨b, o, none⟩) h1
    go_simp; rfl
  simp only [Act.put, List.setIfInBounds_toArray, List.set_cons_succ, List.set_cons_zero, List.nil_append, List.cons_append]
  apply Run.callR (wanted_none rfl _) (by intro v w w' hf hs; exact hs) (fun _ _ => by go_simp; exact ⟨rfl, rfl⟩)
  · intro w1 h1 hk
    have q2 := h1.cell y2; have q4 := h1.cell y4; have q5 := h1.cell y5; have q6 := h1.cell y6; have q7 := h1.cell y7; have q8 := h1.cell y8; have q9 := h1.cell y9; have hg := (Fut.drew _).trans h1
    refine (HE1.out _ (FB.out.trans hg) left hleft).mono ?_; rintro e w' ⟨r, rfl, hr, hf⟩; exact ⟨_, rfl, hf, r, rfl, hr⟩
  intro v8
  simp only [Act.put, List.setIfInBounds_toArray, List.set_cons_succ, List.set_cons_zero, List.nil_append, List.cons_append]
  apply Run.done
  intro w2 h2 hk
  obtain ⟨f8, _⟩ := hk
  obtain ⟨r, rfl, hr⟩ := f8
  have F2 := (Fut.drew _).trans h2
  have FW := Lib.hid (FB.out.trans F2)
  have x0 := F2.cell z0
  have x1 := F2.cell z1
  have x2 := F2.cell z2
  have x3 := F2.cell z3
  have x4 := F2.cell z4
  have x5 := F2.cell z5
  clear y2 y4 y5 y6 y7 y8 y9 z0 z1 z2 z3 z4 z5 h2 F2
  have hrl : r ≤ left + 1 := by rcases hr with h | h <;> omega
  have hwb : IntKind.i64.wrap (1 + (xa.length : Int) + r) = ((1 + xa.length + r : Nat) : Int) := by rw [IntKind.wrap_i64]; omega
  have hlw : IntKind.i64.wrap ((left : Int) + 1) = ((left + 1 : Nat) : Int) := by rw [IntKind.wrap_i64]; omega
  by_cases hov : 1 + xa.length + r > left
  · have hovI : (1 + (xa.length : Int) + r) > left := by omega
    go_wp2
    go_ret
    exact ⟨left + 1, by first | rfl | simp, .inl rfl, FW.out⟩
  · have hovI : ¬ (1 + (xa.length : Int) + r) > left := by omega
    have hr' := Lib.hid (hr.resolve_left (by omega))
    replace hr := Lib.hid hr
    have hcv : ((left : Int) - (1 + (xa.length : Int) + r)) = (((left - (1 + xa.length + r)) : Nat) : Int) := by omega
    have hsub : IntKind.i64.wrap ((left : Int) - (1 + (xa.length : Int) + r)) = ((left - (1 + xa.length + r) : Nat) : Int) := by rw [IntKind.wrap_i64]; omega
    replace hcv := Lib.hid hcv
    go_wp2_with fail
    try rw [hcv.out]
    refine (HE2.out _ FW.out (left - (1 + xa.length + r)) (by omega)).mono ?_
    rintro e w3 ⟨r2, rfl, hr2, f3⟩
    have hr2l : r2 ≤ left - (1 + xa.length + r) + 1 := by rcases hr2 with h | h <;> omega
    have hwc : IntKind.i64.wrap (1 + (xa.length : Int) + r + r2) = ((1 + xa.length + r + r2 : Nat) : Int) := by rw [IntKind.wrap_i64]; omega
    have F3 := Lib.hid (FW.out.trans f3)
    have hres : Hid (1 + xa.length + r + r2 = left + 1 ∨ (1 + xa.length + r + r2 = 1 + xa.length + xl.size + xd.size ∧ 1 + xa.length + r + r2 ≤ left ∧ xl.depth ≤ 65537 ∧ xd.depth ≤ 65537)) := Lib.hid (by
      have h9 := hr'.out
      rcases hr2 with h | ⟨h3, h4, h5⟩
      · left; omega
      · right; exact ⟨by omega, by omega, h9.2.2, h5⟩)
    clear f3 hr hr' hr2
    go_wp2
    go_ret
    exact ⟨1 + xa.length + r + r2, by first | rfl | simp, hres.out, F3.out⟩
end Go.Proofs.YtdjffkkbjbiihaaGreatDoor
/- Copies of expressions: TwinExpr, TwinExprs. -/
namespace Go.Proofs.YtdjffkkbjbiihaaGreatDoor
open Go.RowKit
set_option linter.unusedSimpArgs false
set_option linter.unusedVariables false

theorem TwinE.only {α : Type} {sz : Nat} {e : TypeId} {z : List Value} {RE : Nat → World → List Value → α → Prop} {RM : World → List Value → Prop} {B : Nat} {w w' : World} {v : Value} {xs : List α} {S : Nat → Prop}
    (h : TwinE sz e z RE RM B w v xs) (hO : Only S w w') (hS : ∀ k, B ≤ k → ¬ S k) (hE : ∀ g cs x, B ≤ g → RE g w cs x → RE g w' cs x) (hM : ∀ cs, RM w cs → RM w' cs) : TwinE sz e z RE RM B w' v xs := by
  obtain ⟨g, css, h1, h2, h3, h4, h5, h6⟩ := h
  obtain ⟨arr, b1, b2⟩ := h4
  exact ⟨g, css, h1, h2, h3, ⟨arr, hO.keeps b1 (hS g h1), b2⟩, fun i x cs hx hc => ⟨(h5 i x cs hx hc).1, hE _ _ _ (by omega) (h5 i x cs hx hc).2⟩, fun cs hc => ⟨(h6 cs hc).1, hM _ (h6 cs hc).2⟩⟩
theorem TwinE.base {α : Type} {sz : Nat} {e : TypeId} {z : List Value} {RE : Nat → World → List Value → α → Prop} {RM : World → List Value → Prop} {B B' : Nat} {w : World} {v : Value} {xs : List α}
    (h : TwinE sz e z RE RM B w v xs) (hB : B' ≤ B) : TwinE sz e z RE RM B' w v xs := by
  obtain ⟨g, css, h1, h2⟩ := h
  exact ⟨g, css, by omega, h2⟩
theorem block_range {w : World} {b : Nat} {cs : List Value} {t : TypeId} (h : w.heap[b]? = some (.cells cs.toArray t (0, 0))) : w.rangeAt b 0 cs := fun j v hj => by
  rw [Nat.zero_add]
  exact cell_at h j v (by simpa using hj)
def zEx : List Value := [.int .i8 0, .string ⟨#[]⟩, .int .i8 0, .int .i64 0, .string ⟨#[]⟩, .slice none 0 0]
def mkEx : List Value := [.int .i8 99, .string wordS, .int .i8 0, .int .i64 0, .string ⟨#[]⟩, .slice none 0 0]
theorem infoEx6 : (Tryz.prog.info? 117).map (fun i => (i.zero, i.size, i.bytes)) = some (some (.agg zEx.toArray), 6, 80) := by kernel_rfl
theorem infoExN : (Tryz.prog.info? 117).map (·.size) = some 6 := by kernel_rfl
theorem infoExs1 : (Tryz.prog.info? 115).map (·.size) = some 1 := by kernel_rfl
/-- A copy of an expression, of height below h, in memory from block g on. -/
def TwEx : Nat → Nat → World → List Value → Ex → Prop
  | 0, _, _, _, _ => False
  | h + 1, g, w, cs, .mk op t kids => ∃ kv, cs = [.int .i8 op, .string t.v, .int .i8 t.x.k, .int .i64 t.x.n, .string t.x.s, kv] ∧ TwinE 6 117 zEx (TwEx h) (fun _ cs => cs = mkEx) g w kv kids
abbrev TwExs (h : Nat) : Nat → World → Value → List Ex → Prop := TwinE 6 117 zEx (TwEx h) (fun _ cs => cs = mkEx)
theorem TwEx.only {S : Nat → Prop} : ∀ (h : Nat) {g : Nat} {w w' : World} {cs : List Value} {x : Ex}, TwEx h g w cs x → Only S w w' → (∀ k, g ≤ k → ¬ S k) → TwEx h g w' cs x
  | 0, _, _, _, _, _, h, _, _ => h
  | h + 1, g, w, w', cs, .mk op t kids, ⟨kv, h1, h2⟩, hO, hS => ⟨kv, h1, h2.only hO hS (fun g' cs x hg hx => TwEx.only h hx hO fun k hk => hS k (by omega)) fun _ h => h⟩
theorem TwEx.keep {h g : Nat} {w w' : World} {cs : List Value} {x : Ex} (hx : TwEx h g w cs x) (hf : Fut w w') : TwEx h g w' cs x := TwEx.only (S := fun _ => False) h hx (Only.fut hf) fun _ _ h => h
theorem TwEx.base : ∀ (h : Nat) {g g' : Nat} {w : World} {cs : List Value} {x : Ex}, TwEx h g w cs x → g' ≤ g → TwEx h g' w cs x
  | 0, _, _, _, _, _, h, _ => h
  | h + 1, _, _, _, _, .mk _ _ _, ⟨kv, h1, h2⟩, hg => ⟨kv, h1, h2.base hg⟩
theorem TwExs.keep {h B : Nat} {w w' : World} {v : Value} {xs : List Ex} (hx : TwExs h B w v xs) (hf : Fut w w') : TwExs h B w' v xs := TwinE.fut (fun g _ _ _ _ hf hx => TwEx.keep hx hf) (fun _ _ _ _ h => h) hx hf
theorem size_kid : ∀ {l : List Ex} {x : Ex}, x ∈ l → x.size ≤ Ex.sizes l
  | y :: r, x, h => by
    unfold Ex.sizes
    rcases List.mem_cons.1 h with e | h
    · rw [e]; omega
    · have := size_kid h; omega
theorem len_sizes : ∀ l : List Ex, l.length ≤ Ex.sizes l
  | [] => Nat.zero_le _
  | y :: r => by
    have h1 := len_sizes r
    have h2 : 1 ≤ y.size := by obtain ⟨_, _, _⟩ := y; unfold Ex.size; omega
    unfold Ex.sizes
    rw [List.length_cons]
    omega
set_option maxHeartbeats 1000000 in
theorem markEx_any (w : World) (hP : Pows w) : Calls Tryz.prog 101 #[.int .i64 777777] w fun e w' => e = .returned (.agg mkEx.toArray) ∧ Fut w w' := by
  have HW := Lib.hid (fun w hP => word_any' w hP)
  have hb0 := Lib.hid (blk_zero w zEx 117 (by decide))
  have f0 := Fut.alloc w (.cells zEx.toArray 117)
  unfold mkEx
  generalize wordS = t at HW ⊢
  go_enter Tryz.func101, Tryz.ntmps101
  go_wp2_with fail
  refine (HW.out _ (hP.fut f0)).mono ?_
  rintro e w1 ⟨rfl, h1⟩
  have hb1 := Lib.hid (hb0.out.fut h1)
  have F1 := Lib.hid (f0.trans h1)
  clear h1 f0
  have hi3 := infoExN
  go_wp2_with (first | (show wpList _ _ _ (Oper.mk _ (Op.store _ _ _) _ _ _ _ :: _) _ _; refine wpList_storeK [.int .i8 99, .string t, .int .i8 0, .int .i64 0, .string ⟨#[]⟩, .slice none 0 0] rfl _ _ _ rfl rfl rfl hb1.out (fun c hc => (by cases hc)) rfl (by decide) rfl (by decide) hi3 (by intro v hv; simp only [List.mem_cons, List.not_mem_nil, or_false] at hv; rcases hv with (rfl|rfl|rfl|rfl|rfl|rfl) <;> rfl) ?_; intro w2 hB2 hO2))
  have hb2 := blk_one hB2 rfl
  have OW : Fut w w2 := ((Only.fut (S := fun k => k = w.heap.size) F1.out).trans hO2).toFut fun k hk => by omega
  refine bodyPost_ret (v := .agg #[.int .i8 99, .string t, .int .i8 0, .int .i64 0, .string ⟨#[]⟩, .slice none 0 0]) (results_cell_row rfl _ _ w.heap.size _ #[.int .i8 99, .string t, .int .i8 0, .int .i64 0, .string ⟨#[]⟩, .slice none 0 0] _ _ rfl hb2 Tryz.underlying117 rfl hi3) rfl ?_
  exact ⟨rfl, OW⟩
/-- What is said of TwinExprs, for lists of a height. -/
def TwExsOk (h : Nat) : Prop := ∀ (xs : List Ex) (A : Option Addr) (c M : Nat) (w : World), Pows w → SlRep 6 M (RE h) w (.slice A xs.length c) xs → Ex.sizes xs ≤ 100000000 →
  Calls Tryz.prog 264 #[.slice A xs.length c] w fun e w' => ∃ v, e = .returned v ∧ TwExs h w.heap.size w' v xs ∧ Fut w w'
set_option maxHeartbeats 2000000 in
theorem twinExpr_of (h : Nat) (IH : TwExsOk h) (x : Ex) (cs : List Value) (w : World) (hP : Pows w) (hx : RE (h + 1) w cs x) (hs : x.size ≤ 100000000) :
    Calls Tryz.prog 246 #[.agg cs.toArray] w fun e w' => ∃ cs', e = .returned (.agg cs'.toArray) ∧ cs'.length = 6 ∧ (∀ v ∈ cs', v.oneCell' = true) ∧ TwEx (h + 1) w.heap.size w' cs' x ∧ Fut w w' := by
  obtain ⟨op, ⟨tv, ⟨xk, xn, xs⟩⟩, ks⟩ := x
  obtain ⟨kv, rfl, _, _, hk⟩ := hx
  obtain ⟨A, c, rfl, _, _⟩ := hk.form
  have hsz : Ex.sizes ks ≤ 100000000 := by unfold Ex.size at hs; omega
  dsimp only at *
  have hbx := heap_alloc_new w (.cells #[.int .i8 op, .string tv, .int .i8 xk, .int .i64 xn, .string xs, .slice A ks.length c] 117)
  have f0 := Fut.alloc w (.cells #[.int .i8 op, .string tv, .int .i8 xk, .int .i64 xn, .string xs, .slice A ks.length c] 117)
  have hs1 : (w.alloc (.cells #[.int .i8 op, .string tv, .int .i8 xk, .int .i64 xn, .string xs, .slice A ks.length c] 117)).heap.size = w.heap.size + 1 := by simp
  have hz := blk_zero (w.alloc (.cells #[.int .i8 op, .string tv, .int .i8 xk, .int .i64 xn, .string xs, .slice A ks.length c] 117)) zEx 117 (by decide)
  have f1 := Fut.alloc (w.alloc (.cells #[.int .i8 op, .string tv, .int .i8 xk, .int .i64 xn, .string xs, .slice A ks.length c] 117)) (.cells zEx.toArray 117)
  rw [hs1] at hz
  have f01 := f0.trans f1
  have hbx1 := f1.block hbx
  have c5 := cell_at hbx1 5 _ rfl
  have HK := Lib.hid (IH ks A c _ _ (hP.fut f01) (hk.fut (RE.stays h) f01) hsz)
  have F01 := Lib.hid f01
  have HBX := Lib.hid hbx1
  have HZ := Lib.hid hz
  clear f0 f1 f01 hbx hbx1 hz hs1 hk IH hP hs hsz
  go_enter Tryz.func246, Tryz.ntmps246
  go_wp2_with fail
  refine HK.out.mono ?_
  rintro e w2 ⟨v, rfl, ht, f2⟩
  obtain ⟨g, hg, rfl, _⟩ := TwinE.mark ht rfl (by decide)
  have hzz : ((w.alloc (.cells #[.int .i8 op, .string tv, .int .i8 xk, .int .i64 xn, .string xs, .slice A ks.length c] 117)).alloc (.cells zEx.toArray 117)).heap.size = w.heap.size + 2 := by simp
  have hb2 := f2.block HBX.out
  have d5 := cell_at hb2 5 _ rfl
  have e5 := free_at hb2 5
  have hz2 := HZ.out.fut f2
  obtain ⟨w3, hw3⟩ : ∃ W, w2.setCell ⟨w.heap.size, 5, none⟩ (.slice (some ⟨g, 0, none⟩) ks.length (ks.length + 1)) = W := ⟨_, rfl⟩
  have hb3 : w3.heap[w.heap.size]? = some (.cells #[.int .i8 op, .string tv, .int .i8 xk, .int .i64 xn, .string xs, .slice (some ⟨g, 0, none⟩) ks.length (ks.length + 1)] 117 (0, 0)) := by rw [← hw3]; simp [World.setCell, Array.getElem?_modify, hb2]
  have hz3 := hz2.far (p := ⟨w.heap.size, 5, none⟩) (by simp) (.slice (some ⟨g, 0, none⟩) ks.length (ks.length + 1))
  have O3 : Only (fun k => k = w.heap.size) w2 w3 := by rw [← hw3]; exact Only.set _ _ rfl
  rw [hw3] at hz3
  have hrg := Lib.hid (block_range hb3)
  have HZ3 := Lib.hid hz3
  have hw3' := Lib.hid hw3
  have HO3 := Lib.hid (And.intro (Only.fut (S := fun k => w.heap.size ≤ k ∧ k < w.heap.size + 2) (F01.out.trans f2)) (O3.mono (S' := fun k => w.heap.size ≤ k ∧ k < w.heap.size + 2) fun k _ e => by omega))
  have HT := Lib.hid (show TwExs h (w.heap.size + 2) w3 (.slice (some ⟨g, 0, none⟩) ks.length (ks.length + 1)) ks from (TwinE.only (S := fun k => k = w.heap.size) (B := w.heap.size + 2) (by rw [← hzz]; exact ht) O3 (fun k hk e => by omega) (fun g cs x hg hx => hx.only h O3 fun k hk e => by omega) fun _ h => h))
  have hi3 := infoExN
  have hi1 := infoExs1
  have hone : ∀ v ∈ ([.int .i8 op, .string tv, .int .i8 xk, .int .i64 xn, .string xs, .slice (some ⟨g, 0, none⟩) ks.length (ks.length + 1)] : List Value), v.oneCell' = true := fun v hv => by
    simp only [List.mem_cons, List.not_mem_nil, or_false] at hv
    rcases hv with (rfl|rfl|rfl|rfl|rfl|rfl) <;> rfl
  clear hw3 hz3 hz2 hb3 hb2 O3 ht f2 hg c5 HK hzz
  go_wp2_with (first | (show wpList _ _ _ (Oper.mk _ (Op.store 115 _ _) _ _ _ _ :: _) _ _; refine wpList_store_1 (wanted_none rfl _) _ _ rfl rfl rfl hi1 rfl d5 e5 hw3'.out ?_) | (show wpList _ _ _ (Oper.mk _ (Op.load 117 _) _ _ _ _ :: _) _ _; refine wpList_load_mid rfl _ _ rfl w.heap.size 0 rfl [.int .i8 op, .string tv, .int .i8 xk, .int .i64 xn, .string xs, .slice (some ⟨g, 0, none⟩) ks.length (ks.length + 1)] _ hrg.out Tryz.underlying117 rfl hi3 ?_) | (show wpList _ _ _ (Oper.mk _ (Op.store 117 _ _) _ _ _ _ :: _) _ _; refine wpList_storeK [.int .i8 op, .string tv, .int .i8 xk, .int .i64 xn, .string xs, .slice (some ⟨g, 0, none⟩) ks.length (ks.length + 1)] rfl _ _ _ rfl rfl rfl HZ3.out (fun c hc => (by cases hc)) rfl (by decide) rfl (by decide) hi3 hone ?_; intro w4 hB4 hO4))
  have hb4 := blk_one hB4 rfl
  have OW : Fut w w4 := ((HO3.out.1.trans HO3.out.2).trans (hO4.mono (S' := fun k => w.heap.size ≤ k ∧ k < w.heap.size + 2) fun k _ e => by omega)).toFut fun k hk => hk.1
  refine bodyPost_ret (v := .agg #[.int .i8 op, .string tv, .int .i8 xk, .int .i64 xn, .string xs, .slice (some ⟨g, 0, none⟩) ks.length (ks.length + 1)]) (results_cell_row rfl _ _ (w.heap.size + 1) _ #[.int .i8 op, .string tv, .int .i8 xk, .int .i64 xn, .string xs, .slice (some ⟨g, 0, none⟩) ks.length (ks.length + 1)] _ _ rfl hb4 Tryz.underlying117 rfl hi3) rfl ?_
  exact ⟨[.int .i8 op, .string tv, .int .i8 xk, .int .i64 xn, .string xs, .slice (some ⟨g, 0, none⟩) ks.length (ks.length + 1)], rfl, rfl, hone, ⟨_, rfl, (TwinE.only (S := fun k => k = w.heap.size + 1) HT.out hO4 (fun k hk e => by omega) (fun g cs x hg hx => hx.only h hO4 fun k hk e => by omega) fun _ h => h).base (by omega)⟩, OW⟩
set_option maxHeartbeats 2000000 in
theorem twinExs_of (h : Nat) (HX : ∀ (x : Ex) (cs : List Value) (w : World), Pows w → RE h w cs x → x.size ≤ 100000000 →
    Calls Tryz.prog 246 #[.agg cs.toArray] w fun e w' => ∃ cs', e = .returned (.agg cs'.toArray) ∧ cs'.length = 6 ∧ (∀ v ∈ cs', v.oneCell' = true) ∧ TwEx h w.heap.size w' cs' x ∧ Fut w w') : TwExsOk h := by
  intro xs A c M w hP hx hs
  have hn : xs.length ≤ 100000000 := Nat.le_trans (len_sizes xs) hs
  obtain ⟨i0, hi0, hz0, hz1, hz2⟩ := info_parts infoEx6
  have hmk : ∀ W : World, (Instr.makeSlice 115 (.int .i64 ((xs.length : Int) + 1)) (.int .i64 ((xs.length : Int) + 1))).run Tryz.prog W =
      .ok (.slice (some ⟨W.heap.size, 0, none⟩) (xs.length + 1) (xs.length + 1)) (W.alloc (.cells (madeCells zEx.toArray ((xs.length + 1) * 6)) 117)) := fun W => by
    have := run_make_rowN (P := Tryz.prog) 115 117 i0 _ Tryz.underlying115 hi0 hz0 .i64 .i64 (xs.length + 1) (xs.length + 1) (Nat.le_refl _) (by rw [hz2]; omega) (by omega) W
    rw [hz1] at this
    exact this
  have HB0 := Lib.hid (blk_madeK w zEx (xs.length + 1) 117 (by decide))
  have F0 := Lib.hid (Fut.alloc w (.cells (madeCells zEx.toArray ((xs.length + 1) * 6)) 117))
  have H := Lib.hid hx
  have HP := Lib.hid hP
  have HXX := Lib.hid HX
  have HS := Lib.hid (fun x (hx : x ∈ xs) => Nat.le_trans (size_kid hx) hs)
  have hxl : xs.length ≤ 9223372036854775807 := by omega
  have hiN := infoExN
  clear hx hP HX hi0 hz0 hz1 hz2 hs
  go_enter Tryz.func264, Tryz.ntmps264
  go_wp2
  go_loopw [4] (fun i wr => ∃ (k : Nat) (css : List (List Value)), k ≤ xs.length ∧ i = .int .i64 k ∧ css.length = k ∧ Hid (∀ c ∈ css, c.length = 6) ∧ Hid (BlkF wr w.heap.size 117 ((xs.length + 1) * 6) (cellsAt css zEx 6)) ∧ Hid (∀ (j : Nat) (x : Ex) (cs : List Value), xs[j]? = some x → css[j]? = some cs → TwEx h (w.heap.size + 1) wr cs x) ∧ Hid (Fut w wr)) (fun i _ => xs.length - (intOf i).toNat)
  case atStart => exact ⟨0, [], Nat.zero_le _, rfl, rfl, Lib.hid (fun c hc => by cases hc), HB0, Lib.hid (fun j x cs _ hc => by simp at hc), F0⟩
  case round =>
    obtain ⟨k, css, hk, rfl, hcl, hall, hB, hE, hF⟩ := hrel
    obtain ⟨wA, rfl⟩ : ∃ x, x = wr := ⟨_, rfl⟩
    have hsz : w.heap.size + 1 ≤ wA.heap.size := hB.out.lt
    by_cases hlt : k < xs.length
    · have hltI : (k : Int) < xs.length := by omega
      have e0 : (0 : Int) ≤ k ∧ (k : Int) < xs.length := by omega
      have e1 : (0 : Int) ≤ k ∧ (k : Int) < xs.length + 1 := by omega
      obtain ⟨b', off, cs, rfl, hr, hl6, hcs⟩ := sl_row (H.out.fut (RE.stays h) hF.out) hlt
      have hzx := HS.out _ (List.getElem_mem hlt)
      have hxk : xs[k]? = some xs[k] := List.getElem?_eq_getElem hlt
      generalize xs[k] = z at *
      have HC := Lib.hid (HXX.out z cs wA (HP.out.fut hF.out) hr hzx)
      have hcs9 := Lib.hid hcs
      have hxk9 := Lib.hid hxk
      have hi6 : (Tryz.prog.info? 117).map (·.size) = some cs.length := by rw [hl6]; exact hiN
      clear hcs hr hzx hxk
      go_wp2_with (first | (show wpList _ _ _ (Oper.mk _ (Op.load _ _) _ _ _ _ :: _) _ _; refine wpList_load_mid rfl _ _ rfl b' (off + k * 6) rfl cs _ hcs9.out Tryz.underlying117 rfl hi6 ?_))
      refine HC.out.mono ?_
      rintro e w1 ⟨cs', rfl, hl, hone, ht, f1⟩
      have hB1 := Lib.hid (hB.out.fut f1)
      have hF1 := Lib.hid (hF.out.trans f1)
      have hT1 := Lib.hid (TwEx.base h ht hsz)
      have hE1 := Lib.hid (fun j x cs hx hc => (hE.out j x cs hx hc).keep f1)
      clear ht f1 hB hF hE HC
      go_wp2_with (first | (show wpList _ _ _ (Oper.mk _ (Op.store _ _ _) _ _ _ _ :: _) _ _; refine wpList_storeK cs' rfl _ _ _ rfl rfl rfl hB1.out hall.out (by rw [hcl]) (by rw [hcl]; omega) hl (by decide) hiN hone ?_; intro w2 hB2 hO2))
      have HF2 := Lib.hid (((Only.fut (S := fun k => k = w.heap.size) hF1.out).trans hO2).toFut fun k hk => by omega)
      have HE2 := Lib.hid (show ∀ (j : Nat) (x : Ex) (cs : List Value), xs[j]? = some x → (css ++ [cs'])[j]? = some cs → TwEx h (w.heap.size + 1) w2 cs x from fun j x cs hx hc => by
        rcases Nat.lt_or_ge j css.length with hj | hj
        · rw [List.getElem?_append_left hj] at hc
          exact (hE1.out j x cs hx hc).only h hO2 fun k hk e => by omega
        · have hj' : j = k := by
            have := (List.getElem?_eq_some_iff.1 hc).1
            simp at this; omega
          subst hj'
          rw [List.getElem?_append_right hj, hcl, Nat.sub_self] at hc
          obtain rfl := Option.some.inj hc
          rw [hxk9.out] at hx
          obtain rfl := Option.some.inj hx
          exact hT1.out.only h hO2 fun k hk e => by omega)
      have HA2 := Lib.hid (show ∀ c ∈ css ++ [cs'], c.length = 6 from fun c hc => by
        rcases List.mem_append.1 hc with q | q
        · exact hall.out c q
        · rw [List.mem_singleton] at q; rw [q]; exact hl)
      have HB2 := Lib.hid hB2
      have HL2 := Lib.hid (show (css ++ [cs']).length = k + 1 by rw [List.length_append, hcl]; rfl)
      clear hB2 hO2 hB1 hF1 hT1 hE1 hall
      go_wp2
      go_roundw
      case rel => exact ⟨k + 1, css ++ [cs'], by omega, by go_num, HL2.out, HA2, HB2, HE2, HF2⟩
      case measure => simp [intOf] <;> omega
    · obtain rfl : k = xs.length := by omega
      have hMk := Lib.hid (markEx_any wA (HP.out.fut hF.out))
      have e1 : (0 : Int) ≤ xs.length ∧ (xs.length : Int) < xs.length + 1 := by omega
      have hone : ∀ v ∈ mkEx, v.oneCell' = true := fun v hv => by
        unfold mkEx at hv
        simp only [List.mem_cons, List.not_mem_nil, or_false] at hv
        rcases hv with (rfl|rfl|rfl|rfl|rfl|rfl) <;> rfl
      go_wp2_with fail
      refine hMk.out.mono ?_
      rintro e w1 ⟨rfl, f1⟩
      have hB1 := Lib.hid (hB.out.fut f1)
      have hF1 := Lib.hid (hF.out.trans f1)
      have hE1 := Lib.hid (fun j x cs hx hc => (hE.out j x cs hx hc).keep f1)
      clear f1 hB hF hMk hE
      go_wp2_with (first | (show wpList _ _ _ (Oper.mk _ (Op.store _ _ _) _ _ _ _ :: _) _ _; refine wpList_storeK mkEx rfl _ _ _ rfl rfl rfl hB1.out hall.out (by rw [hcl]) (by rw [hcl]; omega) rfl (by decide) hiN hone ?_; intro w2 hB2 hO2))
      have HF2 := Lib.hid (((Only.fut (S := fun k => k = w.heap.size) hF1.out).trans hO2).toFut fun k hk => by omega)
      have HB2 := Lib.hid hB2
      have HE2 := Lib.hid (fun j x cs hx hc => (hE1.out j x cs hx hc).only h hO2 fun k hk e => by omega)
      clear hB2 hO2 hB1 hF1 hE1
      go_wp2
      go_ret
      refine ⟨_, rfl, ⟨w.heap.size, css ++ [mkEx], Nat.le_refl _, rfl, by rw [List.length_append, hcl]; rfl, HB2.out, fun i x cs hx hc => ?_, fun cs hc => ?_⟩, HF2.out⟩
      · have hi : i < xs.length := (List.getElem?_eq_some_iff.1 hx).1
        rw [List.getElem?_append_left (by omega)] at hc
        exact ⟨hall.out _ (List.mem_of_getElem? hc), HE2.out i x cs hx hc⟩
      · rw [List.getElem?_append_right (by omega), hcl, Nat.sub_self] at hc
        obtain rfl := Option.some.inj hc
        exact ⟨rfl, rfl⟩
theorem twinExs_any : ∀ h, TwExsOk h
  | 0 => twinExs_of 0 fun x cs w _ hx => hx.elim
  | h + 1 => twinExs_of (h + 1) fun x cs w hP hx hs => twinExpr_of h (twinExs_any h) x cs w hP hx hs
theorem twinExpr_any (x : Ex) (cs : List Value) (w : World) (hP : Pows w) (h : Nat) (hx : RE h w cs x) (hs : x.size ≤ 100000000) :
    Calls Tryz.prog 246 #[.agg cs.toArray] w fun e w' => ∃ cs', e = .returned (.agg cs'.toArray) ∧ cs'.length = 6 ∧ (∀ v ∈ cs', v.oneCell' = true) ∧ TwEx h w.heap.size w' cs' x ∧ Fut w w' := by
  cases h with
  | zero => exact hx.elim
  | succ h => exact twinExpr_of h (twinExs_any h) x cs w hP hx hs
end Go.Proofs.YtdjffkkbjbiihaaGreatDoor
/- Is a copy of expressions still that: LeftExpr, LeftExprs. -/
namespace Go.Proofs.YtdjffkkbjbiihaaGreatDoor
open Go.RowKit
set_option linter.unusedSimpArgs false
set_option linter.unusedVariables false

theorem TwinE.row {α : Type} {sz : Nat} {e : TypeId} {z : List Value} {RE : Nat → World → List Value → α → Prop} {RM : World → List Value → Prop} {B : Nat} {w : World} {v : Value} {xs : List α} (h : TwinE sz e z RE RM B w v xs) {k : Nat} (hk : k < xs.length) :
    ∃ g cs, B ≤ g ∧ v = .slice (some ⟨g, 0, none⟩) xs.length (xs.length + 1) ∧ cs.length = sz ∧ RE (g + 1) w cs xs[k] ∧ ∀ j u, cs[j]? = some u → w.cell? ⟨g, k * sz + j, none⟩ = some u := by
  obtain ⟨g, css, h1, h2, h3, h4, h5, h6⟩ := h
  have hc : css[k]? = some (css[k]'(by omega)) := List.getElem?_eq_getElem (by omega)
  obtain ⟨hl, hr⟩ := h5 k _ _ (List.getElem?_eq_getElem hk) hc
  refine ⟨g, _, h1, h2, hl, hr, fun j u hj => ?_⟩
  have hjl : j < sz := by rw [← hl]; exact (List.getElem?_eq_some_iff.1 hj).1
  have hm : (k + 1) * sz ≤ (xs.length + 1) * sz := Nat.mul_le_mul_right _ (by omega)
  rw [Nat.add_mul] at hm
  rw [h4.cell (by omega), cellsAt_get hc hj hjl]
end Go.Proofs.YtdjffkkbjbiihaaGreatDoor
