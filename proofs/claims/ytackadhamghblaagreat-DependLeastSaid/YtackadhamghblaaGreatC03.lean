/- Vals, TreeR, Own, Tup, OwnB -/
import Derived.Deep.QuietTactic
import Derived.BigQuiet
import Derived.Laws.AppendOwn
import Derived.OwnWalk
import Derived.Test.YtackadhamghblaaGreatC02
/- Lists of values: SameValues, TwinValues, LeftValues; the order of tuples, of the program and of the reference. -/
namespace Go.Proofs.YtackadhamghblaaGreat
open Go.RowKit
set_option linter.unusedSimpArgs false
set_option linter.unusedVariables false

instance : DecidableEq V := fun x y =>
  if h : x.k = y.k ∧ x.n = y.n ∧ x.s.toList = y.s.toList then
    .isTrue (by obtain ⟨k, n, s⟩ := x; obtain ⟨k', n', s'⟩ := y; simp only at h; obtain ⟨rfl, rfl, h⟩ := h; rw [ByteArray.toList_eq, ByteArray.toList_eq] at h; rw [WideShapes.bytes_inj h])
  else .isFalse (fun e => h (by subst e; exact ⟨rfl, rfl, rfl⟩))
theorem V.eq_iff (x y : V) : x = y ↔ x.k = y.k ∧ x.n = y.n ∧ x.s.toList = y.s.toList :=
  ⟨fun e => by subst e; exact ⟨rfl, rfl, rfl⟩, fun h => by obtain ⟨k, n, s⟩ := x; obtain ⟨k', n', s'⟩ := y; simp only at h; obtain ⟨rfl, rfl, h⟩ := h; rw [ByteArray.toList_eq, ByteArray.toList_eq] at h; rw [WideShapes.bytes_inj h]⟩

/-- Two structs held against each other. -/
theorem exec_eqV {o : Oper} {a : Act} {X Y : Operand} (ho : o.op = .binOp .eql 63 X Y 63) (x y : V) (hx : a.eval X = x.val) (hy : a.eval Y = y.val) (w : World) :
    (execOp a.eval o).run Tryz.prog w = .ok (.value (.bool (decide (x = y)))) w := by
  obtain ⟨k, n, s⟩ := x
  obtain ⟨k', n', s'⟩ := y
  unfold execOp
  rw [ho]
  simp only [hx, hy, V.val]
  by_cases h1 : k = k'
  · by_cases h2 : n = n'
    · by_cases h3 : s.toList = s'.toList
      · have hd : decide ((⟨k, n, s⟩ : V) = ⟨k', n', s'⟩) = true := decide_eq_true ((V.eq_iff _ _).2 ⟨h1, h2, h3⟩)
        rw [hd]
        go_simp
      · have hd : decide ((⟨k, n, s⟩ : V) = ⟨k', n', s'⟩) = false := decide_eq_false fun e => h3 ((V.eq_iff _ _).1 e).2.2
        rw [hd]
        go_simp
    · have hd : decide ((⟨k, n, s⟩ : V) = ⟨k', n', s'⟩) = false := decide_eq_false fun e => h2 ((V.eq_iff _ _).1 e).2.1
      have h2' : (n == n') = false := by simpa using h2
      rw [hd]
      go_simp
  · have hd : decide ((⟨k, n, s⟩ : V) = ⟨k', n', s'⟩) = false := decide_eq_false fun e => h1 ((V.eq_iff _ _).1 e).1
    have h1' : (k == k') = false := by simpa using h1
    rw [hd]
    go_simp
theorem exec_neV {o : Oper} {a : Act} {X Y : Operand} (ho : o.op = .binOp .neq 63 X Y 63) (x y : V) (hx : a.eval X = x.val) (hy : a.eval Y = y.val) (w : World) :
    (execOp a.eval o).run Tryz.prog w = .ok (.value (.bool (!decide (x = y)))) w := by
  obtain ⟨k, n, s⟩ := x
  obtain ⟨k', n', s'⟩ := y
  unfold execOp
  rw [ho]
  simp only [hx, hy, V.val]
  by_cases h1 : k = k'
  · by_cases h2 : n = n'
    · by_cases h3 : s.toList = s'.toList
      · have hd : decide ((⟨k, n, s⟩ : V) = ⟨k', n', s'⟩) = true := decide_eq_true ((V.eq_iff _ _).2 ⟨h1, h2, h3⟩)
        rw [hd]
        go_simp
      · have hd : decide ((⟨k, n, s⟩ : V) = ⟨k', n', s'⟩) = false := decide_eq_false fun e => h3 ((V.eq_iff _ _).1 e).2.2
        rw [hd]
        go_simp
    · have hd : decide ((⟨k, n, s⟩ : V) = ⟨k', n', s'⟩) = false := decide_eq_false fun e => h2 ((V.eq_iff _ _).1 e).2.1
      have h2' : (n == n') = false := by simpa using h2
      rw [hd]
      go_simp
  · have hd : decide ((⟨k, n, s⟩ : V) = ⟨k', n', s'⟩) = false := decide_eq_false fun e => h1 ((V.eq_iff _ _).1 e).1
    have h1' : (k == k') = false := by simpa using h1
    rw [hd]
    go_simp

theorem Vals.at_ {w : World} {A : Option Addr} {n cap : Nat} {xs : List V} (h : Vals w (.slice A n cap) xs) {k : Nat} (hk : k < xs.length) :
    ∃ b off, A = some ⟨b, off, none⟩ ∧ (xs[k]).ok ∧ w.cell? ⟨b, off + k * 3, none⟩ = some (.int .i8 (xs[k]).k) ∧ w.cell? ⟨b, off + k * 3 + 1, none⟩ = some (.int .i64 (xs[k]).n) ∧ w.cell? ⟨b, off + k * 3 + 2, none⟩ = some (.string (xs[k]).s) := by
  obtain ⟨A', cap', hv, _, _, h3⟩ := h
  obtain ⟨b, off, cs, hA, hl, hc, hr, hok⟩ := h3 k _ (List.getElem?_eq_getElem hk)
  injection hv with hv _ _
  subst hr
  exact ⟨b, off, hv.trans hA, hok, hc 0 _ rfl, hc 1 _ rfl, hc 2 _ rfl⟩

theorem take_succ_eq {xs ys : List V} {k : Nat} (hx : k < xs.length) (hy : k < ys.length) (h : xs.take k = ys.take k) (he : xs[k] = ys[k]) : xs.take (k + 1) = ys.take (k + 1) := by
  rw [List.take_succ_eq_append_getElem hx, List.take_succ_eq_append_getElem hy, h, he]

/-! ### The order of tuples -/
def cmpT : List V → List V → Int
  | [], [] => 0
  | [], _ :: _ => -1
  | _ :: _, [] => 1
  | x :: r, y :: q => if cmpV x y ≠ 0 then cmpV x y else cmpT r q
theorem cmpT_drop : ∀ (k : Nat) (xs ys : List V), k ≤ xs.length → k ≤ ys.length → (∀ i (hi : i < k) (hx : i < xs.length) (hy : i < ys.length), cmpV xs[i] ys[i] = 0) → cmpT xs ys = cmpT (xs.drop k) (ys.drop k)
  | 0, _, _, _, _, _ => rfl
  | k + 1, [], _, h, _, _ => by simp at h
  | k + 1, _ :: _, [], _, h, _ => by simp at h
  | k + 1, x :: r, y :: q, h, h', hz => by
    have h0 : cmpV x y = 0 := hz 0 (by omega) (by simp) (by simp)
    rw [cmpT, if_neg (by rw [h0]; simp), List.drop_succ_cons, List.drop_succ_cons]
    refine cmpT_drop k r q (by simpa using h) (by simpa using h') fun i hi hx hy => ?_
    have := hz (i + 1) (by omega) (by simp; omega) (by simp; omega)
    simpa using this
theorem cmpT_step {xs ys : List V} {k : Nat} (hx : k < xs.length) (hy : k < ys.length) (hz : ∀ i (_ : i < k) (hx : i < xs.length) (hy : i < ys.length), cmpV xs[i] ys[i] = 0) (h : cmpV xs[k] ys[k] ≠ 0) : cmpT xs ys = cmpV xs[k] ys[k] := by
  rw [cmpT_drop k xs ys (by omega) (by omega) hz, List.drop_eq_getElem_cons hx, List.drop_eq_getElem_cons hy, cmpT, if_pos h]
theorem cmpT_end {xs ys : List V} {k : Nat} (hk : k = xs.length ∨ k = ys.length) (hx : k ≤ xs.length) (hy : k ≤ ys.length) (hz : ∀ i (_ : i < k) (hx : i < xs.length) (hy : i < ys.length), cmpV xs[i] ys[i] = 0) :
    cmpT xs ys = if xs.length < ys.length then -1 else if ys.length < xs.length then 1 else 0 := by
  rw [cmpT_drop k xs ys hx hy hz]
  rcases hk with rfl | rfl
  · rw [List.drop_length]
    rcases Nat.lt_or_ge xs.length ys.length with h | h
    · rw [if_pos h, List.drop_eq_getElem_cons h]; rfl
    · rw [if_neg (by omega), if_neg (by omega), List.drop_eq_nil_of_le h]; rfl
  · rw [List.drop_length]
    rcases Nat.lt_or_ge ys.length xs.length with h | h
    · rw [if_neg (by omega), if_pos h, List.drop_eq_getElem_cons h]; rfl
    · rw [if_neg (by omega), if_neg (by omega), List.drop_eq_nil_of_le h]; rfl

end Go.Proofs.YtackadhamghblaaGreat
/- Rules: read off the form's own reading. -/
namespace Go.Proofs.YtackadhamghblaaGreat
open Go.RowKit Go.ChangeShapes Go.WideShapes Go.ChangeAt Go.Deep
set_option linter.unusedSimpArgs false
set_option linter.unusedVariables false
set_option maxRecDepth 10000

theorem cS : Tryz.prog.cellsOf 9 = 1 := by kernel_rfl
theorem cVal : Tryz.prog.cellsOf 63 = 3 := by kernel_rfl
theorem cTm : Tryz.prog.cellsOf 65 = 4 := by kernel_rfl
theorem cEx : Tryz.prog.cellsOf 68 = 6 := by kernel_rfl
theorem cAt : Tryz.prog.cellsOf 58 = 2 := by kernel_rfl
theorem cLt : Tryz.prog.cellsOf 70 = 16 := by kernel_rfl
theorem cAr : Tryz.prog.cellsOf 95 = 5 := by kernel_rfl
theorem cRu : Tryz.prog.cellsOf 52 = 3 := by kernel_rfl
theorem cOp : Tryz.prog.cellsOf 60 = 1 := by kernel_rfl
theorem cLk : Tryz.prog.cellsOf 55 = 1 := by kernel_rfl
theorem cRl : Tryz.prog.cellsOf 59 = 1 := by kernel_rfl
theorem cAg : Tryz.prog.cellsOf 93 = 1 := by kernel_rfl
theorem cEs : Tryz.prog.cellsOf 66 = 1 := by kernel_rfl
theorem cTs : Tryz.prog.cellsOf 56 = 1 := by kernel_rfl
theorem cAs : Tryz.prog.cellsOf 49 = 1 := by kernel_rfl
theorem cLs : Tryz.prog.cellsOf 50 = 1 := by kernel_rfl
theorem bEx : Tryz.prog.bytesOf 68 = 80 := by kernel_rfl
theorem bTm : Tryz.prog.bytesOf 65 = 48 := by kernel_rfl
theorem bLt : Tryz.prog.bytesOf 70 = 216 := by kernel_rfl
theorem bAr : Tryz.prog.bytesOf 95 = 56 := by kernel_rfl
theorem bRu : Tryz.prog.bytesOf 52 = 64 := by kernel_rfl
theorem field_at {α : Type} {P : Program} {f : Field} {R : World → List Value → α → Prop} {H : Type} {enc : TypeId × Value → H} {w : World} {base : Nat} {held : Bool} {t ty : TypeId} {fs : Array Field} {fuel o n : Nat} {cs : List Value} {x : DataW H × List MemPlace}
    (hs : P.underlying t = some (.struct fs)) (h : DataW.trod enc P w base (fun _ => true) held fuel t cs = some x) (hn : ∀ n ∈ x.1.weights P t, n ≤ reachBytes) (i : Nat) (hi : fs[i]? = some f) (ho : f.offset = o) (hty : f.type = ty) (hc : P.cellsOf ty = n) (hR : Reads P ty R) :
    ∃ d, R w ((cs.drop o).take n) d := by
  subst ho; subst hty; subst hc
  exact reads_field hs h hn i hi hR
theorem fieldD_at {α : Type} {P : Program} {f : Field} {R : World → List Value → α → Prop} {H : Type} {enc : TypeId × Value → H} {w : World} {base : Nat} {held : Bool} {t ty : TypeId} {fs : Array Field} {fuel o n : Nat} {cs : List Value} {x : DataW H × List MemPlace}
    (hs : P.underlying t = some (.struct fs)) (h : DataW.trod enc P w base (fun _ => true) held fuel t cs = some x) (hn : ∀ n ∈ x.1.weights P t, n ≤ reachBytes) (i : Nat) (hi : fs[i]? = some f) (ho : f.offset = o) (hty : f.type = ty) (hc : P.cellsOf ty = n) {k : Nat} (hk : SizeOf.sizeOf x.1 < k + 1) (hR : ReadsD k P ty R) :
    ∃ d, R w ((cs.drop o).take n) d := by
  subst ho; subst hty; subst hc
  exact readsD_field hs h hn i hi hk hR
theorem rTm : Reads Tryz.prog 65 RTm := by
  intro H enc w base held fuel cs x h hn
  have hs := Tryz.underlying65
  have hl := (reads_len hs h).trans cTm
  obtain ⟨s, e0, w0⟩ := field_at (o := 0) hs h hn 0 rfl rfl rfl cS (reads_string Tryz.underlying9)
  obtain ⟨v, e1, w1⟩ := field_at (o := 1) hs h hn 1 rfl rfl rfl cVal rV
  match cs, hl with
  | [a, b, c, d], _ =>
    simp [V.cells] at e0 e1
    exact ⟨⟨s, v⟩, by rw [e0, e1.1, e1.2.1, e1.2.2]; rfl, w0, w1⟩
theorem rExD : ∀ k, ReadsD k Tryz.prog 68 (RE k)
  | 0 => fun H enc w base held fuel cs x h hn hz => absurd hz (Nat.not_lt_zero _)
  | k + 1 => by
    intro H enc w base held fuel cs x h hn hz
    have hs := Tryz.underlying68
    have hl := (reads_len hs h).trans cEx
    obtain ⟨op, e0, w0⟩ := field_at (o := 0) hs h hn 0 rfl rfl rfl cOp (reads_int Tryz.underlying60)
    obtain ⟨t, e1, w1⟩ := field_at (o := 1) hs h hn 1 rfl rfl rfl cTm rTm
    obtain ⟨kids, kv, e2, w2⟩ := fieldD_at (o := 5) hs h hn 2 rfl rfl rfl cEs hz (readsD_slice (M := 1759218604441) Tryz.underlying66 cEx (by omega) (fun c hc => by rw [bEx] at hc; unfold reachBytes at hc; omega) (rExD k))
    match cs, hl with
    | [a, b, c, d, e, f], _ =>
      simp [Tm.cells] at e0 e1 e2
      exact ⟨.mk op t kids, kv, by rw [e0, e1.1, e1.2.1, e1.2.2.1, e1.2.2.2, e2], w0, w1, w2⟩
theorem rEx : Reads Tryz.prog 68 RX := reads_ofD rExD
theorem rLt : Reads Tryz.prog 70 RLt := by
  intro H enc w base held fuel cs x h hn
  have hs := Tryz.underlying70
  have hl := (reads_len hs h).trans cLt
  have rAt : Reads Tryz.prog 58 (fun w cs (d : ByteArray × List Tm) => ∃ av, cs = [.string d.1, av] ∧ d.1.size ≤ 140737488351232 ∧ SlRep 4 2932031007402 RTm w av d.2) := by
    intro H enc w base held fuel cs x h hn
    have hs := Tryz.underlying58
    have hl := (reads_len hs h).trans cAt
    obtain ⟨s, e0, w0⟩ := field_at (o := 0) hs h hn 0 rfl rfl rfl cS (reads_string Tryz.underlying9)
    obtain ⟨ts, v, e1, w1⟩ := field_at (o := 1) hs h hn 1 rfl rfl rfl cTs (reads_slice (M := 2932031007402) Tryz.underlying56 cTm (by omega) (fun c hc => by rw [bTm] at hc; unfold reachBytes at hc; omega) rTm)
    match cs, hl with
    | [a, b], _ =>
      simp at e0 e1
      exact ⟨(s, ts), v, by rw [e0, e1], w0, w1⟩
  obtain ⟨k, e0, w0⟩ := field_at (o := 0) hs h hn 0 rfl rfl rfl cLk (reads_int Tryz.underlying55)
  obtain ⟨⟨p, ts⟩, av, e1, w1, w1'⟩ := field_at (o := 1) hs h hn 1 rfl rfl rfl cAt rAt
  obtain ⟨r, e2, w2⟩ := field_at (o := 3) hs h hn 2 rfl rfl rfl cRl (reads_int Tryz.underlying59)
  obtain ⟨l, w3⟩ := field_at (o := 4) hs h hn 3 rfl rfl rfl cEx rEx
  obtain ⟨d, w4⟩ := field_at (o := 10) hs h hn 4 rfl rfl rfl cEx rEx
  match cs, hl with
  | [a0, a1, a2, a3, a4, a5, a6, a7, a8, a9, b0, b1, b2, b3, b4, b5], _ =>
    simp at e0 e1 e2 w3 w4
    exact ⟨⟨k, p, ts, r, l, d⟩, av, [a4, a5, a6, a7, a8, a9], [b0, b1, b2, b3, b4, b5], by rw [e0, e1.1, e1.2, e2]; rfl, rfl, rfl, w0, w2, w1, w1', w3, w4⟩
theorem rAr : Reads Tryz.prog 95 RAr := by
  intro H enc w base held fuel cs x h hn
  have hs := Tryz.underlying95
  have hl := (reads_len hs h).trans cAr
  obtain ⟨g, e0, w0⟩ := field_at (o := 0) hs h hn 0 rfl rfl rfl cAg (reads_int Tryz.underlying93)
  obtain ⟨t, e1, w1⟩ := field_at (o := 1) hs h hn 1 rfl rfl rfl cTm rTm
  match cs, hl with
  | [a, b, c, d, e], _ =>
    simp [Tm.cells] at e0 e1
    exact ⟨⟨g, t⟩, by rw [e0, e1.1, e1.2.1, e1.2.2.1, e1.2.2.2]; rfl, w0, w1⟩
theorem rRu : Reads Tryz.prog 52 RRu := by
  intro H enc w base held fuel cs x h hn
  have hs := Tryz.underlying52
  have hl := (reads_len hs h).trans cRu
  obtain ⟨p, e0, w0⟩ := field_at (o := 0) hs h hn 0 rfl rfl rfl cS (reads_string Tryz.underlying9)
  obtain ⟨hd, hv, e1, w1⟩ := field_at (o := 1) hs h hn 1 rfl rfl rfl cAs (reads_slice (M := 2513169434916) Tryz.underlying49 cAr (by omega) (fun c hc => by rw [bAr] at hc; unfold reachBytes at hc; omega) rAr)
  obtain ⟨bd, bv, e2, w2⟩ := field_at (o := 2) hs h hn 2 rfl rfl rfl cLs (reads_slice (M := 651562446089) Tryz.underlying50 cLt (by omega) (fun c hc => by rw [bLt] at hc; unfold reachBytes at hc; omega) rLt)
  match cs, hl with
  | [a, b, c], _ =>
    simp at e0 e1 e2
    exact ⟨⟨p, hd, bd⟩, hv, bv, by rw [e0, e1, e2], w0, w1, w2⟩
theorem rRus : Reads Tryz.prog 22 (SlR 3 2199023255552 RRu) :=
  reads_slice Tryz.underlying22 cRu (by omega) (fun c hc => by rw [bRu] at hc; unfold reachBytes at hc; omega) rRu
end Go.Proofs.YtackadhamghblaaGreat
/-
  A list that the call builds by append: what it holds, whether there was room or a new array was made. Generic in the elements; no program.
-/
namespace Go.Proofs.YtackadhamghblaaGreat
open Go.RowKit
set_option linter.unusedSimpArgs false
set_option linter.unusedVariables false

/-- A list of the call's own, in a block from B on (or nil). -/
def OwnL {α : Type} (sz B : Nat) (e : TypeId) (R : World → List Value → α → Prop) (w : World) (v : Value) (xs : List α) : Prop :=
  ∃ css : List (List Value), css.length = xs.length ∧ (∀ (i : Nat) (cs : List Value) (x : α), css[i]? = some cs → xs[i]? = some x → cs.length = sz ∧ R w cs x) ∧ w.ownsRow B e sz v xs.length css.flatten
section
variable {α : Type} {sz B M : Nat} {e : TypeId} {R : World → List Value → α → Prop} {w w' : World} {v u : Value} {xs ys : List α}
theorem OwnL.nil : OwnL sz B e R w (.slice none 0 0) ([] : List α) := ⟨[], rfl, fun i cs x h => by simp at h, World.ownsRow_nil w B e sz⟩
theorem OwnL.fut (hR : Stays R) (h : OwnL sz B e R w v xs) (hf : Fut w w') : OwnL sz B e R w' v xs := by
  obtain ⟨css, h1, h2, h3, h4⟩ := h
  refine ⟨css, h1, fun i cs x hi hx => ⟨(h2 i cs x hi hx).1, hR _ _ _ _ hf (h2 i cs x hi hx).2⟩, h3, ?_⟩
  rcases h4 with h4 | ⟨g, cap, cur, a1, a2, a3, a4⟩
  · exact .inl h4
  · exact .inr ⟨g, cap, cur, a1, a2, hf.block a3, a4⟩
theorem flatten_at {css : List (List Value)} (hs : ∀ (i : Nat) (cs : List Value), css[i]? = some cs → cs.length = sz) : ∀ (i j : Nat) (cs : List Value) (c : Value), css[i]? = some cs → cs[j]? = some c → css.flatten[i * sz + j]? = some c := by
  induction css with
  | nil => intro i j cs c h; simp at h
  | cons a r ih =>
    intro i j cs c h hj
    have ha := hs 0 a rfl
    cases i with
    | zero =>
      simp only [List.getElem?_cons_zero, Option.some.injEq] at h
      subst h
      rw [Nat.zero_mul, Nat.zero_add, List.flatten_cons, List.getElem?_append_left (List.getElem?_eq_some_iff.1 hj).1]
      exact hj
    | succ i =>
      rw [List.flatten_cons, List.getElem?_append_right (by rw [ha, Nat.add_mul]; omega), ha, show (i + 1) * sz + j - sz = i * sz + j by rw [Nat.add_mul]; omega]
      exact ih (fun k cs hk => hs (k + 1) cs (by simpa using hk)) i j cs c (by simpa using h) hj
theorem flatten_len {css : List (List Value)} (hs : ∀ (i : Nat) (cs : List Value), css[i]? = some cs → cs.length = sz) : css.flatten.length = css.length * sz := by
  induction css with
  | nil => simp
  | cons a r ih =>
    rw [List.flatten_cons, List.length_append, hs 0 a rfl, ih fun k cs hk => hs (k + 1) cs (by simpa using hk), List.length_cons, Nat.add_mul]; omega
/-- Read as a list. -/
theorem OwnL.rep (h : OwnL sz B e R w v xs) : SlRep sz maxLen R w v xs := by
  obtain ⟨css, h1, h2, h3, h4⟩ := h
  rcases h4 with ⟨rfl, h5⟩ | ⟨g, cap, cur, rfl, a2, a3, a4, a5, a6, a7⟩
  · have : xs = [] := List.length_eq_zero_iff.1 h5
    subst this
    exact ⟨none, 0, rfl, Nat.le_refl _, Nat.zero_le _, fun i x hx => by simp at hx⟩
  · refine ⟨_, cap, rfl, a4, a5, fun i x hx => ?_⟩
    have hil : i < xs.length := (List.getElem?_eq_some_iff.1 hx).1
    have hc : css[i]? = some (css[i]'(by omega)) := List.getElem?_eq_getElem (by omega)
    obtain ⟨b1, b2⟩ := h2 i _ x hc hx
    refine ⟨g, 0, _, rfl, b1, fun j c hj => ?_, b2⟩
    have hs : ∀ (i : Nat) (cs : List Value), css[i]? = some cs → cs.length = sz := fun i cs hi => by
      have hl : i < css.length := (List.getElem?_eq_some_iff.1 hi).1
      exact (h2 i cs _ hi (List.getElem?_eq_getElem (by omega))).1
    have hf := flatten_at hs i j _ c hc hj
    have hfl : i * sz + j < xs.length * sz := by
      have := (List.getElem?_eq_some_iff.1 hf).1
      rwa [flatten_len hs, h1] at this
    rw [← a7, List.getElem?_take, if_pos hfl, Array.getElem?_toList] at hf
    rw [Nat.zero_add]
    simp [World.cell?, a3, hf]
/-- .. its block. -/
theorem OwnL.block (h : OwnL sz B e R w v xs) : ∀ k, v.ownBlock = some k → B ≤ k ∧ k < w.heap.size := by
  obtain ⟨css, h1, h2, h3⟩ := h
  exact h3.lt
theorem Fut.grown {w0 : World} (h : Fut w0 w) {row : Option Nat} (hg : w.grownBy w' row) (hrow : ∀ k, row = some k → w0.heap.size ≤ k) : Fut w0 w' :=
  ⟨hg.os.trans h.os, hg.tape.trans h.tape, hg.output.trans h.output, Nat.le_trans h.size hg.size, fun k hk => (hg.block k (Nat.lt_of_lt_of_le hk h.size) (fun e => absurd (hrow k e.symm) (by omega))).trans (Below.block h k hk)⟩
theorem run_append_none {P : Program} (t ty : TypeId) (i : TypeInfo) (ht : P.underlying t = some (.slice e)) (hi : P.info? e = some i) (A : Option Addr) (n cap c : Nat) (hn : n ≤ cap) (w : World) :
    (Builtin.append_ #[t, t] ty #[.slice A n cap, .slice none 0 c]).run P w = .ok (.slice A n cap) w := by
  cases A <;> simp [Builtin.append_, run_underlying ht, sizeOf, typeInfo, hi, Builtin.lenOf, run_firstCells_none, hn, storeCells]

/-- APPEND: the list grows by what the second one holds. -/
theorem run_append_list {P : Program} (t ty : TypeId) (i : TypeInfo) (z : Value) (bytes : Nat) (ht : P.underlying t = some (.slice e)) (hi : P.info? e = some i) (hz : i.zero = some z) (hsize : i.size = sz) (hby : i.bytes = bytes) (hzs : z.cells.size = sz) (hsz : 0 < sz)
    (hR1 : ∀ w cs x, R w cs x → ∀ u ∈ cs, u.oneCell' = true) (hRk : ∀ w' cs (x : α), R w cs x → w.grownBy w' v.ownBlock → R w' cs x)
    (h : OwnL sz B e R w v xs) (hu : SlRep sz M R w u ys) (h63 : xs.length + ys.length ≤ maxLen) (hbytes : (xs.length + ys.length) * bytes ≤ 140737488355328) (hbase : B ≤ w.heap.size) :
    ∃ v' w', (Builtin.append_ #[t, t] ty #[v, u]).run P w = .ok v' w' ∧ OwnL sz B e R w' v' (xs ++ ys) ∧ w.grownBy w' v.ownBlock := by
  have h0 := h
  obtain ⟨css, h1, h2, h3⟩ := h
  obtain ⟨A, cap, rfl, hl, hm, hx⟩ := hu
  have hgrow : ∀ w', w.grownBy w' v.ownBlock → ∀ (i : Nat) (cs : List Value) (x : α), css[i]? = some cs → xs[i]? = some x → cs.length = sz ∧ R w' cs x := fun w' hg i cs x hi hx => ⟨(h2 i cs x hi hx).1, hRk _ _ _ (h2 i cs x hi hx).2 hg⟩
  cases A with
  | none =>
    have hy : ys = [] := by
      cases ys with
      | nil => rfl
      | cons y r => obtain ⟨_, _, _, hA, _⟩ := hx 0 y rfl; cases hA
    subst hy
    obtain ⟨A', cap', hv, hl', _⟩ := h0.rep.form
    subst hv
    exact ⟨_, w, run_append_none t ty i ht hi A' _ cap' cap hl' w, by rw [List.append_nil]; exact h0, World.grownBy.refl w _⟩
  | some a =>
    obtain ⟨news, hnl, hnews⟩ := exists_list (p := fun k (cs : List Value) => ∃ y, ys[k]? = some y ∧ cs.length = sz ∧ R w cs y ∧ ∀ j c, cs[j]? = some c → w.cell? (a.add (k * sz + j)) = some c) ys.length fun k hk => by
      obtain ⟨b, off, cs, hA, b1, b2, b3⟩ := hx k _ (List.getElem?_eq_getElem hk)
      injection hA with hA
      subst hA
      refine ⟨cs, _, List.getElem?_eq_getElem hk, b1, b3, fun j c hj => ?_⟩
      rw [← b2 j c hj]
      congr 1
      unfold Addr.add
      by_cases h' : k * sz + j = 0 <;> first | (simp [h']; done) | (simp [h']; omega)
    have hs : ∀ (i : Nat) (cs : List Value), news[i]? = some cs → cs.length = sz := fun i cs hi => by obtain ⟨y, _, b1, _⟩ := hnews i cs hi; exact b1
    have hcells : ∀ j u, news.flatten[j]? = some u → w.cell? (a.add j) = some u := fun j u hj => by
      have hjl : j < news.length * sz := by
        have := (List.getElem?_eq_some_iff.1 hj).1
        rwa [flatten_len hs] at this
      have hk : j / sz < news.length := Nat.div_lt_of_lt_mul (by rw [Nat.mul_comm]; exact hjl)
      obtain ⟨y, _, b1, _, b2⟩ := hnews (j / sz) _ (List.getElem?_eq_getElem hk)
      have hr : j % sz < (news[j / sz]).length := by rw [b1]; exact Nat.mod_lt _ hsz
      have e1 := flatten_at hs (j / sz) (j % sz) _ _ (List.getElem?_eq_getElem hk) (List.getElem?_eq_getElem hr)
      have e2 := b2 (j % sz) _ (List.getElem?_eq_getElem hr)
      rw [show j / sz * sz + j % sz = j by rw [Nat.mul_comm]; exact Nat.div_add_mod j sz] at e1 e2
      rw [hj] at e1
      rw [e2, ← e1]
    have hone : ∀ u ∈ news.flatten, u.oneCell' = true := fun u hu => by
      obtain ⟨cs, hc, hu⟩ := List.mem_flatten.1 hu
      obtain ⟨k, hk⟩ := List.getElem?_of_mem hc
      obtain ⟨y, _, _, b3, _⟩ := hnews k cs hk
      exact hR1 _ _ _ b3 u hu
    obtain ⟨v', w', r1, r2, r3, _⟩ := run_append_own (P := P) (w := w) B t ty e i z sz bytes ht hi hz hsize hby hzs hsz v xs.length css.flatten h3 a ys.length cap news.flatten (by rw [flatten_len hs, hnl]) hcells hone h63 hbytes hbase
    refine ⟨v', w', r1, ⟨css ++ news, by simp [h1, hnl], fun k cs x hk hx' => ?_, by rw [List.flatten_append, List.length_append]; exact r2⟩, r3⟩
    rcases Nat.lt_or_ge k css.length with h' | h'
    · rw [List.getElem?_append_left h'] at hk
      rw [List.getElem?_append_left (by omega)] at hx'
      exact hgrow w' r3 k cs x hk hx'
    · rw [List.getElem?_append_right h'] at hk
      rw [List.getElem?_append_right (by omega)] at hx'
      obtain ⟨y, e1, b1, b3, _⟩ := hnews _ _ hk
      rw [h1, hx'] at e1
      obtain rfl := Option.some.inj e1
      exact ⟨b1, hRk _ _ _ b3 r3⟩
end

/-! ### Values and facts -/
abbrev OwnV (B : Nat) (e : TypeId) : World → Value → List V → Prop := OwnL 3 B e RV
theorem RV.one : ∀ (w : World) cs x, RV w cs x → ∀ u ∈ cs, u.oneCell' = true := fun w cs x h u hu => by
  obtain ⟨rfl, _⟩ := h
  simp [V.cells] at hu
  rcases hu with rfl | rfl | rfl <;> rfl
/-- Lists of values, appended. -/
theorem run_append_V {P : Program} {t ty e : TypeId} {B : Nat} {w : World} {v u : Value} {xs ys : List V} {M : Nat} (ht : P.underlying t = some (.slice e))
    (hinfo : (P.info? e).map (fun i => (i.zero, i.size, i.bytes)) = some (some (.agg #[.int .i8 0, .int .i64 0, .string ⟨#[]⟩]), 3, 32))
    (h : OwnV B e w v xs) (hu : SlRep 3 M RV w u ys) (hlen : xs.length + ys.length ≤ 4398046511104) (hbase : B ≤ w.heap.size) :
    ∃ v' w', (Builtin.append_ #[t, t] ty #[v, u]).run P w = .ok v' w' ∧ OwnV B e w' v' (xs ++ ys) ∧ w.grownBy w' v.ownBlock := by
  obtain ⟨i, hi, hz, hs, hb⟩ := info_parts hinfo
  exact run_append_list t ty i _ 32 ht hi hz hs hb rfl (by omega) RV.one (fun _ _ _ h _ => h) h hu (by unfold maxLen; omega) (by omega) hbase
theorem OwnV.vals {B : Nat} {e : TypeId} {w : World} {v : Value} {xs : List V} (h : OwnV B e w v xs) : Vals w v xs := h.rep.more (by unfold maxLen; omega)
end Go.Proofs.YtackadhamghblaaGreat
/- Lists of tuples and lists of facts: as arguments hold them, as the call's own; append. No program. -/
namespace Go.Proofs.YtackadhamghblaaGreat
open Go.RowKit
set_option linter.unusedSimpArgs false
set_option linter.unusedVariables false

/-! ### Within: tuples of any make -/
def RT (w : World) (cs : List Value) (xs : List V) : Prop := ∃ v, cs = [v] ∧ Vals w v xs
theorem RT.stays : Stays RT := fun _ _ _ _ hf ⟨v, h1, h2⟩ => ⟨v, h1, h2.fut RV.stays hf⟩
abbrev Tups : World → Value → List (List V) → Prop := SlRep 1 9223372036854775807 RT
abbrev TupsA : World → Value → List (List V) → Prop := SlRep 1 5864062014805 (SlR 3 4398046511104 RV)
theorem TupsA.tups {w : World} {v : Value} {ts : List (List V)} (h : TupsA w v ts) : Tups w v ts :=
  (SlRep.imp h fun cs x ⟨v, h1, h2⟩ => (⟨v, h1, ValsA.vals h2⟩ : RT w cs x)).more (by omega)
theorem Tups.at_ {w : World} {A : Option Addr} {n cap : Nat} {ts : List (List V)} (h : Tups w (.slice A n cap) ts) {k : Nat} (hk : k < ts.length) :
    ∃ b off A' cap', A = some ⟨b, off, none⟩ ∧ w.cell? ⟨b, off + k, none⟩ = some (.slice A' (ts[k]).length cap') ∧ (ts[k]).length ≤ cap' ∧ cap' ≤ 9223372036854775807 ∧ Vals w (.slice A' (ts[k]).length cap') ts[k] := by
  obtain ⟨A1, cap1, hv, _, _, h3⟩ := h
  obtain ⟨b, off, cs, hA, hl, hc, u, hr, hu⟩ := h3 k _ (List.getElem?_eq_getElem hk)
  injection hv with hv _ _
  subst hr
  obtain ⟨A', cap', rfl, h4, h5⟩ := SlRep.form hu
  exact ⟨b, off, A', cap', hv.trans hA, by have := hc 0 _ rfl; simpa using this, h4, h5, hu⟩
def RG (w : World) (cs : List Value) (x : Fc) : Prop := ∃ v, cs = [.string x.p, v] ∧ x.p.size ≤ 140737488351232 ∧ Vals w v x.a
theorem RG.stays : Stays RG := fun _ _ _ _ hf ⟨v, h1, h2, h3⟩ => ⟨v, h1, h2, h3.fut RV.stays hf⟩
abbrev FacsG : World → Value → List Fc → Prop := SlRep 2 9223372036854775807 RG
theorem Facs.g {w : World} {v : Value} {fs : List Fc} (h : Facs w v fs) : FacsG w v fs :=
  (SlRep.imp h fun cs x ⟨v, h1, h2, h3⟩ => (⟨v, h1, h2, ValsA.vals h3⟩ : RG w cs x)).more (by omega)
theorem FacsG.at_ {w : World} {A : Option Addr} {n cap : Nat} {fs : List Fc} (h : FacsG w (.slice A n cap) fs) {k : Nat} (hk : k < fs.length) :
    ∃ b off A' cap', A = some ⟨b, off, none⟩ ∧ (fs[k]).p.size ≤ 140737488351232 ∧ w.cell? ⟨b, off + k * 2, none⟩ = some (.string (fs[k]).p) ∧ w.cell? ⟨b, off + k * 2 + 1, none⟩ = some (.slice A' (fs[k]).a.length cap') ∧ (fs[k]).a.length ≤ cap' ∧ cap' ≤ 9223372036854775807 ∧ Vals w (.slice A' (fs[k]).a.length cap') (fs[k]).a := by
  obtain ⟨A1, cap1, hv, _, _, h3⟩ := h
  obtain ⟨b, off, cs, hA, hl, hc, u, hr, hp, hu⟩ := h3 k _ (List.getElem?_eq_getElem hk)
  injection hv with hv _ _
  subst hr
  obtain ⟨A', cap', rfl, h4, h5⟩ := SlRep.form hu
  exact ⟨b, off, A', cap', hv.trans hA, hp, hc 0 _ rfl, hc 1 _ rfl, h4, h5, hu⟩
theorem FacsG.size {w : World} {v : Value} {fs : List Fc} (h : FacsG w v fs) : ∀ f ∈ fs, f.p.size ≤ 140737488351232 := by
  obtain ⟨A, cap, _, _, _, h3⟩ := h
  intro f hf
  obtain ⟨i, hi⟩ := List.getElem?_of_mem hf
  obtain ⟨_, _, _, _, _, _, _, _, hp, _⟩ := h3 i f hi
  exact hp

/-! ### Lists of the call's own, whose elements lie in memory of the call's own -/
section
variable {α : Type} {sz B M : Nat} {e ei : TypeId} {R R' : World → List Value → α → Prop} {w w' : World} {v u : Value} {xs ys : List α}
theorem OwnL.typed (h : OwnL sz B e R w v xs) : ∀ k, v.ownBlock = some k → ∃ arr, w.heap[k]? = some (.cells arr e (0, 0)) := by
  intro k hk
  obtain ⟨css, h1, h2, h3, h4⟩ := h
  rcases h4 with ⟨rfl, _⟩ | ⟨g, cap, cur, rfl, a2, a3, _⟩
  · cases hk
  · simp only [Value.ownBlock, Option.some.injEq] at hk
    subst hk
    exact ⟨cur, a3⟩
theorem OwnL.imp (h : OwnL sz B e R w v xs) (hR : ∀ cs x, R w cs x → R' w cs x) : OwnL sz B e R' w v xs := by
  obtain ⟨css, h1, h2, h3⟩ := h
  exact ⟨css, h1, fun i cs x hi hx => ⟨(h2 i cs x hi hx).1, hR _ _ (h2 i cs x hi hx).2⟩, h3⟩
theorem OwnL.base {B' : Nat} (h : OwnL sz B e R w v xs) (hB : B' ≤ B) : OwnL sz B' e R w v xs := by
  obtain ⟨css, h1, h2, h3, h4⟩ := h
  refine ⟨css, h1, h2, h3, ?_⟩
  rcases h4 with h4 | ⟨g, cap, cur, a1, a2, a3⟩
  · exact .inl h4
  · exact .inr ⟨g, cap, cur, a1, Nat.le_trans hB a2, a3⟩
/-- What a write into a row of another type does not turn. -/
def Keeps (e : TypeId) (R : World → List Value → α → Prop) : Prop :=
  ∀ (w w' : World) (row : Option Nat) (cs : List Value) (x : α), R w cs x → w.grownBy w' row → (∀ k, row = some k → ∃ arr, w.heap[k]? = some (.cells arr e (0, 0))) → R w' cs x
theorem OwnL.kept {row : Option Nat} (h : OwnL sz B ei R w v xs) (hR : ∀ cs x, R w cs x → R w' cs x) (hg : w.grownBy w' row) (ht : ∀ k, row = some k → ∃ arr, w.heap[k]? = some (.cells arr e (0, 0))) (hne : ei ≠ e) : OwnL sz B ei R w' v xs := by
  have hty := h.typed
  obtain ⟨css, h1, h2, h3⟩ := h
  refine ⟨css, h1, fun i cs x hi hx => ⟨(h2 i cs x hi hx).1, hR _ _ (h2 i cs x hi hx).2⟩, h3.kept hg ?_⟩
  cases hv : v.ownBlock with
  | none => exact .inl rfl
  | some k =>
    right
    intro hr
    obtain ⟨arr, h5⟩ := hty k hv
    obtain ⟨arr', h6⟩ := ht k hr.symm
    rw [h5] at h6
    injection h6 with h6
    injection h6 with _ h7
    exact hne h7
/-- APPEND, elements that Keep. -/
theorem wpList_append_L {P : Program} {ops : Array Oper} {rest : List Oper} {o : Oper} {a : Act} {Q : Exit → Act → World → Prop} (hgd : Region.wanted o (yielded ops a.tmps) = true) (s x : Operand) (t : TypeId)
    (ho : o.op = .call { callee := .builtin .append, args := #[s, x], argTypes := #[t, t] }) (ht : P.underlying t = some (.slice e)) (z : Value) (bytes : Nat)
    (hinfo : (P.info? e).map (fun i => (i.zero, i.size, i.bytes)) = some (some z, sz, bytes)) (hzs : z.cells.size = sz) (hsz : 0 < sz)
    (hR1 : ∀ w cs x, R w cs x → ∀ u ∈ cs, u.oneCell' = true) (hRk : Keeps e R)
    (hs : a.eval s = v) (hx : a.eval x = u) (hown : OwnL sz B e R w v xs) (hu : SlRep sz M R w u ys) (h63 : xs.length + ys.length ≤ maxLen) (hbytes : (xs.length + ys.length) * bytes ≤ 140737488355328) (hbase : B ≤ w.heap.size)
    (h : ∀ v' w', OwnL sz B e R w' v' (xs ++ ys) → w.grownBy w' v.ownBlock → wpList P ops Q rest (a.put o.dst v') w') : wpList P ops Q (o :: rest) a w := by
  obtain ⟨i, hi, hz, hs', hb⟩ := info_parts hinfo
  obtain ⟨v', w', hr, h2, h3⟩ := run_append_list t o.type i z bytes ht hi hz hs' hb hzs hsz hR1 (fun w' cs x hr hg => hRk w w' _ cs x hr hg hown.typed) hown hu h63 hbytes hbase
  refine wpList_step fun K hK => ?_
  rw [if_pos hgd]
  unfold Oper.wp
  have hrun : (execOp a.eval o).run P w = .ok (.value v') w' := by
    unfold execOp
    simp only [ho, resolve, invoke, builtin, Sem.run_bind, Sem.run_pure, Result.andThen_ok, List.map_toArray, List.map_cons, List.map_nil, hs, hx, hr]
  rw [hrun]
  exact hK _ _ (h v' w' h2 h3)
end

/-- Tuples, facts in memory of the call's own: B: from this block on. -/
def RTo (B : Nat) (ev : TypeId) (w : World) (cs : List Value) (xs : List V) : Prop := ∃ v, cs = [v] ∧ OwnV B ev w v xs
def RGo (B : Nat) (ev : TypeId) (w : World) (cs : List Value) (x : Fc) : Prop := ∃ v, cs = [.string x.p, v] ∧ x.p.size ≤ 140737488351232 ∧ OwnV B ev w v x.a
section
variable {B M : Nat} {e ev : TypeId} {w w' : World} {v u : Value}
theorem RTo.stays : Stays (RTo B ev) := fun _ _ _ _ hf ⟨v, h1, h2⟩ => ⟨v, h1, h2.fut RV.stays hf⟩
theorem RGo.stays : Stays (RGo B ev) := fun _ _ _ _ hf ⟨v, h1, h2, h3⟩ => ⟨v, h1, h2, h3.fut RV.stays hf⟩
theorem RTo.keeps (hne : ev ≠ e) : Keeps e (RTo B ev) := fun w w' row cs x ⟨v, h1, h2⟩ hg ht => ⟨v, h1, h2.kept (fun _ _ h => h) hg ht hne⟩
theorem RGo.keeps (hne : ev ≠ e) : Keeps e (RGo B ev) := fun w w' row cs x ⟨v, h1, h2, h3⟩ hg ht => ⟨v, h1, h2, h3.kept (fun _ _ h => h) hg ht hne⟩
theorem slice_one {A : Option Addr} {n c : Nat} : (Value.slice A n c).oneCell' = true := rfl
theorem RTo.one : ∀ (w : World) cs x, RTo B ev w cs x → ∀ u ∈ cs, u.oneCell' = true := fun w cs x ⟨v, h1, h2⟩ u hu => by
  obtain ⟨A, cap, rfl, _⟩ := h2.vals.form
  subst h1
  simp only [List.mem_singleton] at hu
  subst hu; rfl
theorem RGo.one : ∀ (w : World) cs x, RGo B ev w cs x → ∀ u ∈ cs, u.oneCell' = true := fun w cs x ⟨v, h1, _, h2⟩ u hu => by
  obtain ⟨A, cap, rfl, _⟩ := h2.vals.form
  subst h1
  simp only [List.mem_cons, List.not_mem_nil, or_false] at hu
  rcases hu with rfl | rfl <;> rfl
theorem OwnT.tups {ts : List (List V)} (h : OwnL 1 B e (RTo B ev) w v ts) : Tups w v ts :=
  (h.rep.imp fun cs x ⟨v, h1, h2⟩ => (⟨v, h1, h2.vals⟩ : RT w cs x)).more (by unfold maxLen; omega)
theorem OwnG.facs {fs : List Fc} (h : OwnL 2 B e (RGo B ev) w v fs) : FacsG w v fs :=
  (h.rep.imp fun cs x ⟨v, h1, h2, h3⟩ => (⟨v, h1, h2, h3.vals⟩ : RG w cs x)).more (by unfold maxLen; omega)
/-- What was there is told of as it was, whatever is written into rows of the call's own. -/
theorem const_keeps {α : Type} {R : World → List Value → α → Prop} (w0 : World) : Keeps e (fun _ => R w0) := fun _ _ _ _ _ h _ _ => h
theorem RT.one : ∀ (w : World) cs x, RT w cs x → ∀ u ∈ cs, u.oneCell' = true := fun w cs x ⟨v, h1, h2⟩ u hu => by
  obtain ⟨A, cap, rfl, _⟩ := h2.form
  subst h1
  simp only [List.mem_singleton] at hu
  subst hu; rfl
theorem RG.one : ∀ (w : World) cs x, RG w cs x → ∀ u ∈ cs, u.oneCell' = true := fun w cs x ⟨v, h1, _, h2⟩ u hu => by
  obtain ⟨A, cap, rfl, _⟩ := h2.form
  subst h1
  simp only [List.mem_cons, List.not_mem_nil, or_false] at hu
  rcases hu with rfl | rfl <;> rfl
end

def partsT : List (List V) → Nat
  | [] => 0
  | t :: r => 1 + t.length + partsT r
theorem partsT_take (ts : List (List V)) (k : Nat) (hk : k < ts.length) : partsT (ts.take (k + 1)) = partsT (ts.take k) + (1 + (ts[k]).length) := by
  induction ts generalizing k with
  | nil => simp at hk
  | cons f r ih =>
    cases k with
    | zero => simp [partsT]
    | succ k => simp only [List.take_succ_cons, partsT, List.getElem_cons_succ]; rw [ih k (by simpa using hk)]; omega
theorem partsT_le (ts : List (List V)) (k : Nat) : partsT (ts.take k) ≤ partsT ts := by
  induction ts generalizing k with
  | nil => simp
  | cons f r ih =>
    cases k with
    | zero => simp [partsT]
    | succ k => simp only [List.take_succ_cons, partsT]; have := ih k; omega
theorem partsT_len (ts : List (List V)) : ts.length ≤ partsT ts := by
  induction ts with
  | nil => simp
  | cons f r ih => simp only [List.length_cons, partsT]; omega
theorem partsT_mem {ts : List (List V)} {t : List V} (h : t ∈ ts) : t.length ≤ partsT ts := by
  induction ts with
  | nil => simp at h
  | cons f r ih =>
    simp only [partsT]
    rcases List.mem_cons.1 h with rfl | h
    · omega
    · have := ih h; omega
end Go.Proofs.YtackadhamghblaaGreat
/- Append to a list of the call's own: and the block is the old one or a new one. Generic; no program. -/
namespace Go.Proofs.YtackadhamghblaaGreat
open Go.RowKit
set_option linter.unusedSimpArgs false
set_option linter.unusedVariables false

/-- The block is that of v, or a new one. -/
def SameOrNew (w : World) (v v' : Value) : Prop := v'.ownBlock = v.ownBlock ∨ ∀ k, v'.ownBlock = some k → w.heap.size ≤ k
theorem append_block {P : Program} {w w' : World} {v' : Value} (base : Nat) (t ty e : TypeId) (i : TypeInfo) (z : Value) (size bytes : Nat) (ht : P.underlying t = some (.slice e)) (hi : P.info? e = some i) (hz : i.zero = some z)
    (hsize : i.size = size) (hby : i.bytes = bytes) (hzs : z.cells.size = size) (hsz : 0 < size)
    (v : Value) (n : Nat) (xs : List Value) (hown : w.ownsRow base e size v n xs)
    (a : Addr) (m c : Nat) (news : List Value) (hl : news.length = m * size) (hnews : ∀ j u, news[j]? = some u → w.cell? (a.add j) = some u) (h1 : ∀ u ∈ news, u.oneCell' = true)
    (h63 : n + m ≤ maxLen) (hbytes : (n + m) * bytes ≤ 140737488355328) (hbase : base ≤ w.heap.size)
    (hr : (Builtin.append_ #[t, t] ty #[v, .slice (some a) m c]).run P w = .ok v' w') : SameOrNew w v v' := by
  subst hsize
  subst hby
  rcases hown.2 with ⟨rfl, rfl⟩ | ⟨g, cap, cur, rfl, hbg, hg, hnc, hcm, hcs, htake⟩
  · have hx : xs = [] := List.eq_nil_of_length_eq_zero (by simpa using hown.1)
    subst hx
    obtain ⟨v2, w2, r1, r2, _, _⟩ := run_append_own (P := P) (w := w) w.heap.size t ty e i z i.size i.bytes ht hi hz rfl rfl hzs hsz (.slice none 0 0) 0 [] (World.ownsRow_nil w _ e _) a m c news hl hnews h1 h63 hbytes (Nat.le_refl _)
    rw [hr] at r1
    injection r1 with e1 e2
    subst e1
    exact .inr fun k hk => (r2.lt k hk).1
  · by_cases hroom : n + m ≤ cap
    · have hfit : n * i.size + news.length ≤ cur.size := by rw [hl, hcs, ← Nat.add_mul]; exact Nat.mul_le_mul_right _ hroom
      have r1 := run_append_room (P := P) w t ty e i ht hi g n cap cur hg a m c news hl hnews h1 hroom hfit
      rw [hr] at r1
      injection r1 with e1 e2
      subst e1
      exact .inl rfl
    · have holds : ∀ j u, xs[j]? = some u → w.cell? ((⟨g, 0, none⟩ : Addr).add j) = some u := hown.cells (g := g) rfl
      have hsmall : n + m ≤ 9223372036854775807 := by simp only [maxLen] at h63; omega
      have r1 := run_append_grow (P := P) w t ty e i z ht hi hz ⟨g, 0, none⟩ n cap xs hown.1 holds a m c news hl hnews (by omega) (by omega) (growslice_fits (by omega) hbytes)
      rw [hr] at r1
      injection r1 with e1 e2
      subst e1
      exact .inr fun k hk => by
        have h9 : w.heap.size = k := by simpa [Value.ownBlock] using hk
        omega
section
variable {α : Type} {sz B M : Nat} {e : TypeId} {R : World → List Value → α → Prop} {w w' : World} {v u : Value} {xs ys : List α}
/-- APPEND, and whose the block is. -/
theorem run_append_listB {P : Program} (t ty : TypeId) (i : TypeInfo) (z : Value) (bytes : Nat) (ht : P.underlying t = some (.slice e)) (hi : P.info? e = some i) (hz : i.zero = some z) (hsize : i.size = sz) (hby : i.bytes = bytes) (hzs : z.cells.size = sz) (hsz : 0 < sz)
    (hR1 : ∀ w cs x, R w cs x → ∀ u ∈ cs, u.oneCell' = true) (hRk : ∀ w' cs (x : α), R w cs x → w.grownBy w' v.ownBlock → R w' cs x)
    (h : OwnL sz B e R w v xs) (hu : SlRep sz M R w u ys) (h63 : xs.length + ys.length ≤ maxLen) (hbytes : (xs.length + ys.length) * bytes ≤ 140737488355328) (hbase : B ≤ w.heap.size) :
    ∃ v' w', (Builtin.append_ #[t, t] ty #[v, u]).run P w = .ok v' w' ∧ OwnL sz B e R w' v' (xs ++ ys) ∧ w.grownBy w' v.ownBlock ∧ SameOrNew w v v' := by
  have h0 := h
  obtain ⟨css, h1, h2, h3⟩ := h
  obtain ⟨A, cap, rfl, hl, hm, hx⟩ := hu
  have hgrow : ∀ w', w.grownBy w' v.ownBlock → ∀ (i : Nat) (cs : List Value) (x : α), css[i]? = some cs → xs[i]? = some x → cs.length = sz ∧ R w' cs x := fun w' hg i cs x hi hx => ⟨(h2 i cs x hi hx).1, hRk _ _ _ (h2 i cs x hi hx).2 hg⟩
  cases A with
  | none =>
    have hy : ys = [] := by
      cases ys with
      | nil => rfl
      | cons y r => obtain ⟨_, _, _, hA, _⟩ := hx 0 y rfl; cases hA
    subst hy
    obtain ⟨A', cap', hv, hl', _⟩ := h0.rep.form
    subst hv
    exact ⟨_, w, run_append_none t ty i ht hi A' _ cap' cap hl' w, by rw [List.append_nil]; exact h0, World.grownBy.refl w _, .inl rfl⟩
  | some a =>
    obtain ⟨news, hnl, hnews⟩ := exists_list (p := fun k (cs : List Value) => ∃ y, ys[k]? = some y ∧ cs.length = sz ∧ R w cs y ∧ ∀ j c, cs[j]? = some c → w.cell? (a.add (k * sz + j)) = some c) ys.length fun k hk => by
      obtain ⟨b, off, cs, hA, b1, b2, b3⟩ := hx k _ (List.getElem?_eq_getElem hk)
      injection hA with hA
      subst hA
      refine ⟨cs, _, List.getElem?_eq_getElem hk, b1, b3, fun j c hj => ?_⟩
      rw [← b2 j c hj]
      rw [Addr.add_lit]
    have hs : ∀ (i : Nat) (cs : List Value), news[i]? = some cs → cs.length = sz := fun i cs hi => by obtain ⟨y, _, b1, _⟩ := hnews i cs hi; exact b1
    have hcells : ∀ j u, news.flatten[j]? = some u → w.cell? (a.add j) = some u := fun j u hj => by
      have hjl : j < news.length * sz := by
        have := (List.getElem?_eq_some_iff.1 hj).1
        rwa [flatten_len hs] at this
      have hk : j / sz < news.length := Nat.div_lt_of_lt_mul (by rw [Nat.mul_comm]; exact hjl)
      obtain ⟨y, _, b1, _, b2⟩ := hnews (j / sz) _ (List.getElem?_eq_getElem hk)
      have hr : j % sz < (news[j / sz]).length := by rw [b1]; exact Nat.mod_lt _ hsz
      have e1 := flatten_at hs (j / sz) (j % sz) _ _ (List.getElem?_eq_getElem hk) (List.getElem?_eq_getElem hr)
      have e2 := b2 (j % sz) _ (List.getElem?_eq_getElem hr)
      rw [show j / sz * sz + j % sz = j by rw [Nat.mul_comm]; exact Nat.div_add_mod j sz] at e1 e2
      rw [hj] at e1
      rw [e2, ← e1]
    have hone : ∀ u ∈ news.flatten, u.oneCell' = true := fun u hu => by
      obtain ⟨cs, hc, hu⟩ := List.mem_flatten.1 hu
      obtain ⟨k, hk⟩ := List.getElem?_of_mem hc
      obtain ⟨y, _, _, b3, _⟩ := hnews k cs hk
      exact hR1 _ _ _ b3 u hu
    obtain ⟨v', w', r1, r2, r3, _⟩ := run_append_own (P := P) (w := w) B t ty e i z sz bytes ht hi hz hsize hby hzs hsz v xs.length css.flatten h3 a ys.length cap news.flatten (by rw [flatten_len hs, hnl]) hcells hone h63 hbytes hbase
    have r4 := append_block B t ty e i z sz bytes ht hi hz hsize hby hzs hsz v xs.length css.flatten h3 a ys.length cap news.flatten (by rw [flatten_len hs, hnl]) hcells hone h63 hbytes hbase r1
    refine ⟨v', w', r1, ⟨css ++ news, by simp [h1, hnl], fun k cs x hk hx' => ?_, by rw [List.flatten_append, List.length_append]; exact r2⟩, r3, r4⟩
    rcases Nat.lt_or_ge k css.length with h' | h'
    · rw [List.getElem?_append_left h'] at hk
      rw [List.getElem?_append_left (by omega)] at hx'
      exact hgrow w' r3 k cs x hk hx'
    · rw [List.getElem?_append_right h'] at hk
      rw [List.getElem?_append_right (by omega)] at hx'
      obtain ⟨y, e1, b1, b3, _⟩ := hnews _ _ hk
      rw [h1, hx'] at e1
      obtain rfl := Option.some.inj e1
      exact ⟨b1, hRk _ _ _ b3 r3⟩
theorem wpList_append_LB {P : Program} {ops : Array Oper} {rest : List Oper} {o : Oper} {a : Act} {Q : Exit → Act → World → Prop} (hgd : Region.wanted o (yielded ops a.tmps) = true) (s x : Operand) (t : TypeId)
    (ho : o.op = .call { callee := .builtin .append, args := #[s, x], argTypes := #[t, t] }) (ht : P.underlying t = some (.slice e)) (z : Value) (bytes : Nat)
    (hinfo : (P.info? e).map (fun i => (i.zero, i.size, i.bytes)) = some (some z, sz, bytes)) (hzs : z.cells.size = sz) (hsz : 0 < sz)
    (hR1 : ∀ w cs x, R w cs x → ∀ u ∈ cs, u.oneCell' = true) (hRk : Keeps e R)
    (hs : a.eval s = v) (hx : a.eval x = u) (hown : OwnL sz B e R w v xs) (hu : SlRep sz M R w u ys) (h63 : xs.length + ys.length ≤ maxLen) (hbytes : (xs.length + ys.length) * bytes ≤ 140737488355328) (hbase : B ≤ w.heap.size)
    (h : ∀ v' w', OwnL sz B e R w' v' (xs ++ ys) → w.grownBy w' v.ownBlock → SameOrNew w v v' → wpList P ops Q rest (a.put o.dst v') w') : wpList P ops Q (o :: rest) a w := by
  obtain ⟨i, hi, hz, hs', hb⟩ := info_parts hinfo
  obtain ⟨v', w', hr, h2, h3, h4⟩ := run_append_listB t o.type i z bytes ht hi hz hs' hb hzs hsz hR1 (fun w' cs x hr hg => hRk w w' _ cs x hr hg hown.typed) hown hu h63 hbytes hbase
  refine wpList_step fun K hK => ?_
  rw [if_pos hgd]
  unfold Oper.wp
  have hrun : (execOp a.eval o).run P w = .ok (.value v') w' := by
    unfold execOp
    simp only [ho, resolve, invoke, builtin, Sem.run_bind, Sem.run_pure, Result.andThen_ok, List.map_toArray, List.map_cons, List.map_nil, hs, hx, hr]
  rw [hrun]
  exact hK _ _ (h v' w' h2 h3 h4)
end
end Go.Proofs.YtackadhamghblaaGreat
