/- Parts, Row, Range, RowW, Rel0, RelN -/
import Derived.WideKeyArr2
import Derived.Maps.Keyed
import Derived.Laws.StructEq
import Derived.Laws.Rows
import Derived.RangeFuncNested
import Derived.RangeFuncLeaves
import Derived.Deep.MidRow
import Derived.Test.YtackadhamghblaaGreatProg
import Derived.Lib.Hide
import Derived.WalkSpells
import Derived.WalkLawsBesides
import Derived.WalkKit
import Derived.Laws.Pointers
import Derived.Deep.QuietTactic
import Derived.BigQuiet
import Derived.Test.YtackadhamghblaaGreatC03
/- How many parts an expression has: ExprParts. -/
namespace Go.Proofs.YtackadhamghblaaGreat
open Go.RowKit
set_option linter.unusedSimpArgs false
set_option linter.unusedVariables false

def Ex.kids : Ex → List Ex
  | .mk _ _ ks => ks
mutual
def Ex.size : Ex → Nat
  | .mk _ _ ks => 1 + Ex.sizes ks
def Ex.sizes : List Ex → Nat
  | [] => 0
  | k :: r => k.size + Ex.sizes r
end
mutual
def Ex.depth : Ex → Nat
  | .mk _ _ ks => 1 + Ex.depths ks
def Ex.depths : List Ex → Nat
  | [] => 0
  | k :: r => max k.depth (Ex.depths r)
end
theorem sizes_append : ∀ a b : List Ex, Ex.sizes (a ++ b) = Ex.sizes a + Ex.sizes b
  | [], b => by simp [Ex.sizes]
  | x :: a, b => by rw [List.cons_append, Ex.sizes, Ex.sizes, sizes_append a b]; omega
theorem depths_append : ∀ a b : List Ex, Ex.depths (a ++ b) = max (Ex.depths a) (Ex.depths b)
  | [], b => by simp [Ex.depths]
  | x :: a, b => by rw [List.cons_append, Ex.depths, Ex.depths, depths_append a b]; omega
theorem sizes_level : ∀ L : List Ex, Ex.sizes L = L.length + Ex.sizes (L.flatMap Ex.kids)
  | [] => by simp [Ex.sizes]
  | x :: r => by
    obtain ⟨op, t, ks⟩ := x
    rw [List.flatMap_cons, sizes_append, Ex.sizes, sizes_level r, Ex.size, List.length_cons]
    show 1 + Ex.sizes ks + _ = _ + (Ex.sizes ks + _)
    omega
theorem depths_level : ∀ L : List Ex, L ≠ [] → Ex.depths L = 1 + Ex.depths (L.flatMap Ex.kids)
  | [], h => absurd rfl h
  | x :: r, _ => by
    obtain ⟨op, t, ks⟩ := x
    rw [List.flatMap_cons, depths_append, Ex.depths, Ex.depth]
    show max (1 + Ex.depths ks) (Ex.depths r) = 1 + max (Ex.depths ks) _
    by_cases hr : r = []
    · subst hr; simp [Ex.depths]
    · rw [depths_level r hr]; omega
theorem ex_form {n : Nat} {w : World} {cs : List Value} {x : Ex} (h : RE n w cs x) : ∃ m op t ks A c, n = m + 1 ∧ x = .mk op t ks ∧ cs = [.int .i8 op, .string t.v, .int .i8 t.x.k, .int .i64 t.x.n, .string t.x.s, .slice A ks.length c] ∧ ks.length ≤ c ∧ c ≤ 1759218604441 ∧ SlRep 6 1759218604441 (RE m) w (.slice A ks.length c) ks := by
  cases n with
  | zero => exact h.elim
  | succ m =>
    obtain ⟨op, t, ks⟩ := x
    obtain ⟨kv, h1, h2, h3, h4⟩ := h
    obtain ⟨A, c, rfl, h5, h6⟩ := h4.form
    exact ⟨m, op, t, ks, A, c, rfl, rfl, h1, h5, h6, h4⟩
/-- Expressions of a list of the call's own: their trees lie in the world w0. -/
def RX0 (n : Nat) (w0 : World) (_ : World) (cs : List Value) (x : Ex) : Prop := RE n w0 cs x
theorem RX0.stays {n : Nat} {w0 : World} : Stays (RX0 n w0) := fun _ _ _ _ _ h => h
theorem RX0.keeps {n : Nat} {w0 : World} {e : TypeId} : Keeps e (RX0 n w0) := fun _ _ _ _ _ h _ _ => h
theorem RX0.one {n : Nat} {w0 : World} : ∀ (w : World) cs x, RX0 n w0 w cs x → ∀ u ∈ cs, u.oneCell' = true := fun w cs x h u hu => by
  obtain ⟨m, op, t, ks, A, c, _, _, rfl, _⟩ := ex_form h
  simp only [List.mem_cons, List.not_mem_nil, or_false] at hu
  rcases hu with rfl | rfl | rfl | rfl | rfl | rfl <;> rfl
theorem infoEx : (Tryz.prog.info? 68).map (fun i => (i.zero, i.size, i.bytes)) = some (some (.agg #[.int .i8 0, .string ⟨#[]⟩, .int .i8 0, .int .i64 0, .string ⟨#[]⟩, .slice none 0 0]), 6, 80) := by kernel_rfl
theorem exOne {n : Nat} {w0 w : World} {cs : List Value} {x : Ex} (h : RE n w0 cs x) (e : TypeId) : SlRep 6 1 (RX0 n w0) (w.alloc (.cells cs.toArray e)) (.slice (some ⟨w.heap.size, 0, none⟩) 1 1) [x] :=
  ⟨_, 1, rfl, Nat.le_refl _, Nat.le_refl _, fun i y hy => by
    have hi : i = 0 := by
      have := (List.getElem?_eq_some_iff.1 hy).1
      simp at this; omega
    subst hi
    simp at hy
    subst hy
    have hl : cs.length = 6 := by obtain ⟨m, op, t, ks, A, c, _, _, rfl, _⟩ := ex_form h; rfl
    refine ⟨w.heap.size, 0, cs, rfl, hl, fun j c hj => ?_, h⟩
    rw [show 0 + (0 * 6 + j) = j by omega]
    have h0 := heap_alloc_new w (.cells cs.toArray e)
    simp only [World.cell?, h0]
    simpa using hj⟩
/-- One of a list of expressions, its cells. -/
theorem ex_at {M n : Nat} {w w0 : World} {A : Option Addr} {l cap : Nat} {xs : List Ex} (h : SlRep 6 M (RX0 n w0) w (.slice A l cap) xs) {k : Nat} (hk : k < xs.length) :
    ∃ b off m op t ks A' c, A = some ⟨b, off, none⟩ ∧ n = m + 1 ∧ xs[k] = .mk op t ks ∧ w.cell? ⟨b, off + k * 6, none⟩ = some (.int .i8 op) ∧ w.cell? ⟨b, off + k * 6 + 1, none⟩ = some (.string t.v) ∧ w.cell? ⟨b, off + k * 6 + 2, none⟩ = some (.int .i8 t.x.k) ∧
      w.cell? ⟨b, off + k * 6 + 3, none⟩ = some (.int .i64 t.x.n) ∧ w.cell? ⟨b, off + k * 6 + 4, none⟩ = some (.string t.x.s) ∧ w.cell? ⟨b, off + k * 6 + 5, none⟩ = some (.slice A' ks.length c) ∧ ks.length ≤ c ∧ c ≤ 1759218604441 ∧ SlRep 6 1759218604441 (RE m) w0 (.slice A' ks.length c) ks ∧
      RE n w0 [.int .i8 op, .string t.v, .int .i8 t.x.k, .int .i64 t.x.n, .string t.x.s, .slice A' ks.length c] xs[k] := by
  obtain ⟨A1, cap1, hv, _, _, h3⟩ := h
  obtain ⟨b, off, cs, hA, hl, hc, hr⟩ := h3 k _ (List.getElem?_eq_getElem hk)
  injection hv with hv _ _
  obtain ⟨m, op, t, ks, A', c, h4, h5, rfl, h6, h7, h8⟩ := ex_form hr
  exact ⟨b, off, m, op, t, ks, A', c, hv.trans hA, h4, h5, hc 0 _ rfl, hc 1 _ rfl, hc 2 _ rfl, hc 3 _ rfl, hc 4 _ rfl, hc 5 _ rfl, h6, h7, h8, hr⟩
theorem flat_take {L : List Ex} {i : Nat} (hi : i < L.length) : (L.take (i + 1)).flatMap Ex.kids = (L.take i).flatMap Ex.kids ++ L[i].kids := by
  rw [List.take_succ_eq_append_getElem hi, List.flatMap_append]; simp
theorem own_ex1 {n : Nat} {w0 w : World} {cs : List Value} {x : Ex} {B : Nat} (h : RE n w0 cs x) (e : TypeId) (hB : B ≤ w.heap.size) : OwnL 6 B e (RX0 n w0) (w.alloc (.cells cs.toArray e)) (.slice (some ⟨w.heap.size, 0, none⟩) 1 1) [x] := by
  have hl : cs.length = 6 := by obtain ⟨m, op, t, ks, A, c, _, _, rfl, _⟩ := ex_form h; rfl
  refine ⟨[cs], rfl, fun i ds z hi hz => ?_, ?_⟩
  · have hil := (List.getElem?_eq_some_iff.1 hi).1
    simp at hil
    subst hil
    simp at hi hz
    subst hi; subst hz
    exact ⟨hl, h⟩
  · refine ⟨by simp [hl], .inr ⟨w.heap.size, 1, _, rfl, hB, heap_alloc_new w _, Nat.le_refl _, by unfold maxLen; omega, by simp [hl], ?_⟩⟩
    simp [hl]
    exact List.take_of_length_le (by omega)
set_option maxHeartbeats 2000000 in
set_option maxRecDepth 100000 in
theorem exprParts_any {n : Nat} (x : Ex) (op : Int) (t : Tm) (kv : Value) (left : Nat) (w : World) (h : RE n w [.int .i8 op, .string t.v, .int .i8 t.x.k, .int .i64 t.x.n, .string t.x.s, kv] x) (hleft : left ≤ 1048576) :
    Calls Tryz.prog 50 #[.agg #[.int .i8 op, .string t.v, .int .i8 t.x.k, .int .i64 t.x.n, .string t.x.s, kv], .int .i64 left] w fun e w' => ∃ r : Nat, e = .returned (.int .i64 r) ∧ (r = left + 1 ∨ (r = x.size ∧ r ≤ left ∧ x.depth ≤ 65537)) ∧ Fut w w' := by
  obtain ⟨m, op', t', ks, A, c, hn, hx, hcs, hkc, hcm, hks⟩ := ex_form h
  injection hcs with q0 hcs; injection hcs with q1 hcs; injection hcs with q2 hcs; injection hcs with q3 hcs; injection hcs with q4 hcs; injection hcs with q5 _
  subst q5
  have H := Lib.hid h
  clear q0 q1 q2 q3 q4 h hx hks hn
  go_enter Tryz.func50, Tryz.ntmps50
  go_wp2_with fail
  have hO0 := own_ex1 (w := w.alloc (.cells #[.int .i8 op, .string t.v, .int .i8 t.x.k, .int .i64 t.x.n, .string t.x.s, .slice A ks.length c] 68)) (B := w.heap.size) H.out 68 (by simp)
  have hs0 : (w.alloc (.cells #[.int .i8 op, .string t.v, .int .i8 t.x.k, .int .i64 t.x.n, .string t.x.s, .slice A ks.length c] 68)).heap.size = w.heap.size + 1 := by simp
  rw [hs0] at hO0
  have F0 := (Fut.alloc w (.cells #[.int .i8 op, .string t.v, .int .i8 t.x.k, .int .i64 t.x.n, .string t.x.s, .slice A ks.length c] 68)).trans (Fut.alloc _ (.cells #[.int .i8 op, .string t.v, .int .i8 t.x.k, .int .i64 t.x.n, .string t.x.s, .slice A ks.length c] 68))
  have HO0 := Lib.hid hO0
  replace F0 := Lib.hid F0
  clear hO0 hs0
  go_loopw [5, 6, 7] (fun nn lv dp wr => ∃ (q d : Nat) (L : List Ex), q ≤ left ∧ q + L.length ≤ left + 1 ∧ nn = .int .i64 q ∧ dp = .int .i64 d ∧ d ≤ 65537 ∧ Hid (q + Ex.sizes L = x.size) ∧ Hid (x.depth = d + Ex.depths L) ∧ Hid (OwnL 6 w.heap.size 68 (RX0 n w) wr lv L) ∧ Hid (Fut w wr)) (fun nn _ _ _ => left - (intOf nn).toNat)
  case atStart => exact ⟨0, 0, [x], Nat.zero_le _, by simp, rfl, rfl, by omega, Lib.hid (by simp [Ex.sizes]), Lib.hid (by simp [Ex.depths]), HO0, F0⟩
  case round =>
    obtain ⟨q, d, L, hq, hqL, rfl, rfl, hd, hsz, hdp, hL, hF⟩ := hrel
    obtain ⟨wo, hwo⟩ : ∃ y, y = wr := ⟨_, rfl⟩
    subst hwo
    have hL0 := hL.out
    obtain ⟨AL, cL, hlv, hcl, hcm9⟩ := hL0.rep.form
    rw [hlv] at hL0
    rw [hlv]
    have HL := Lib.hid hL0
    clear hL0 hL
    by_cases hne : L.length = 0
    · have hLn : L = [] := List.length_eq_zero_iff.1 hne
      subst hLn
      have r1 : q = x.size := by have := hsz.out; simpa [Ex.sizes] using this
      have r2 : x.depth ≤ 65537 := by have := hdp.out; simp [Ex.depths] at this; omega
      go_wp2
      go_ret
      exact ⟨q, rfl, .inr ⟨r1, hq, r2⟩, hF.out⟩
    · have hpos : 0 < L.length := by omega
      have hposI : (0 : Int) < L.length := by omega
      have hlw : IntKind.i64.wrap ((left : Int) + 1) = ((left + 1 : Nat) : Int) := by rw [IntKind.wrap_i64]; omega
      by_cases hov : q + L.length > left
      · have hovI : ((q : Int) + L.length) > left := by omega
        go_wp2
        go_ret
        exact ⟨left + 1, by first | rfl | simp, .inl rfl, hF.out⟩
      by_cases hdo : d > 65536
      · have hovI : ¬ ((q : Int) + L.length) > left := by omega
        have hdI : (d : Int) > 65536 := by omega
        go_wp2
        go_ret
        exact ⟨left + 1, by first | rfl | simp, .inl rfl, hF.out⟩
      have hovI : ¬ ((q : Int) + L.length) > left := by omega
      have hdI : ¬ (d : Int) > 65536 := by omega
      have hsL := sizes_level L
      have hdL := depths_level L (fun e => hne (by rw [e]; rfl))
      have hsz' := Lib.hid (show q + L.length + Ex.sizes (L.flatMap Ex.kids) = x.size by have := hsz.out; omega)
      have hdp' := Lib.hid (show x.depth = d + 1 + Ex.depths (L.flatMap Ex.kids) by have := hdp.out; omega)
      clear hsL hdL hsz hdp
      go_wp2_with fail
      obtain ⟨q', hq'⟩ : ∃ q', q' = q + L.length := ⟨_, rfl⟩
      have hqc : ((q : Int) + L.length) = (q' : Int) := by omega
      try rw [hqc]
      have hq'l : q' ≤ left := by omega
      have hqlt := Lib.hid (show q < q' by omega)
      rw [← hq'] at hsz'
      replace hq' := Lib.hid hq'
      clear hqc hovI hov
      go_loopw [8, 9] (fun nx i wi => ∃ k : Nat, k ≤ L.length ∧ i = .int .i64 k ∧ q' + ((L.take k).flatMap Ex.kids).length ≤ left ∧ Hid (OwnL 6 wo.heap.size 68 (RX0 n w) wi nx ((L.take k).flatMap Ex.kids)) ∧ Hid (Fut wo wi)) (fun _ i _ => L.length - (intOf i).toNat)
      case atStart => exact ⟨0, Nat.zero_le _, rfl, by simpa using hq'l, Lib.hid OwnL.nil, Lib.hid (Fut.refl _)⟩
      case round =>
        obtain ⟨k, hk, rfl, hfl, hN, hFi⟩ := hrel
        obtain ⟨wi, hwi⟩ : ∃ y, y = wr := ⟨_, rfl⟩
        subst hwi
        obtain ⟨AN, cN, hnv, hcl2, hcm2⟩ := hN.out.rep.form
        have HN := Lib.hid hN.out
        rw [hnv] at HN
        rw [hnv]
        clear hN
        by_cases hlt : k < L.length
        · obtain ⟨b, off, m', op', t', ks', A', c', rfl, hn', hxk, y0, y1, y2, y3, y4, y5, hc1, hc2, hks', _⟩ := ex_at HL.out.rep hlt
          have y5i := hFi.out.cell y5
          have hmn := Lib.hid (show m' ≤ n by omega)
          clear hn'
          have hft := flat_take hlt
          have hki : L[k].kids = ks' := by rw [hxk]; rfl
          rw [hki] at hft
          have hltI : (k : Int) < L.length := by omega
          have e0 : (0 : Int) ≤ k ∧ (k : Int) < L.length := by omega
          generalize (L.take k).flatMap Ex.kids = G at *
          have hw2 : IntKind.i64.wrap ((q' : Int) + G.length) = ((q' + G.length : Nat) : Int) := by rw [IntKind.wrap_i64]; omega
          have hw3 : IntKind.i64.wrap ((q' : Int) + G.length + ks'.length) = ((q' + G.length + ks'.length : Nat) : Int) := by rw [IntKind.wrap_i64]; omega
          clear y0 y1 y2 y3 y4 hxk hki
          replace hft := Lib.hid hft
          by_cases hov2 : q' + G.length + ks'.length > left
          · have hovI2 : ((q' : Int) + G.length + ks'.length) > left := by omega
            go_wp2
            go_ret
            exact ⟨left + 1, by first | rfl | simp, .inl rfl, hF.out.trans hFi.out⟩
          · have hovI2 : ¬ ((q' : Int) + G.length + ks'.length) > left := by omega
            go_wp2_with fail
            go_loopw [8, 10] (fun nx j wj => ∃ s : Nat, s ≤ ks'.length ∧ j = .int .i64 s ∧ Hid (OwnL 6 wo.heap.size 68 (RX0 n w) wj nx (G ++ ks'.take s)) ∧ Hid (Fut wo wj)) (fun _ j _ => ks'.length - (intOf j).toNat)
            case atStart => exact ⟨0, Nat.zero_le _, rfl, Lib.hid (by rw [List.take_zero, List.append_nil]; exact HN.out), hFi⟩
            case round =>
              obtain ⟨s, hs, rfl, hM, hFj⟩ := hrel
              have y5j := hFj.out.cell y5
              by_cases hsl : s < ks'.length
              · have hkj : SlRep 6 1759218604441 (RX0 m' w) wr (.slice A' ks'.length c') ks' := (hks'.imp fun cs x h => (h : RX0 m' w w cs x)).fut RX0.stays (hF.out.trans hFj.out)
                obtain ⟨b2, off2, m2, op2, t2, ks2, A2, c2, rfl, hm2, hz2, z0, z1, z2, z3, z4, z5, _, _, _, hre⟩ := ex_at hkj hsl
                have hts : ks'.take (s + 1) = ks'.take s ++ [ks'[s]] := List.take_succ_eq_append_getElem hsl
                have hre' := RE.mono hmn.out hre
                clear hre hkj hm2 hz2
                generalize ks'[s] = z at *
                have hsI : (s : Int) < ks'.length := by omega
                have e2 : (0 : Int) ≤ s ∧ (s : Int) < ks'.length := by omega
                have hln : (G ++ ks'.take s).length = G.length + s := by rw [List.length_append, List.length_take]; omega
                have hlh := Lib.hid hln
                replace hts := Lib.hid (show G ++ ks'.take (s + 1) = (G ++ ks'.take s) ++ [z] by rw [hts, List.append_assoc])
                have hbj := hFj.out.size
                generalize G ++ ks'.take s = G2 at *
                clear hln
                go_wp2_with (first | (at_builtin; refine wpList_append_LB (R := RX0 n w) (B := wo.heap.size) (M := 1) (xs := G2) (ys := [z]) (e := 68) (by go_simp) _ _ 66 rfl Tryz.underlying66 (.agg #[.int .i8 0, .string ⟨#[]⟩, .int .i8 0, .int .i64 0, .string ⟨#[]⟩, .slice none 0 0]) 80 infoEx rfl (by decide) RX0.one RX0.keeps rfl rfl (hM.out.fut RX0.stays (Fut.alloc _ _)) (exOne hre' _) ?l3 ?l4 ?b3 ?k3))
                case l3 => have := hlh.out; simp [maxLen]; omega
                case l4 => have := hlh.out; first | omega | (simp; omega)
                case b3 => first | omega | (simp; omega)
                case k3 =>
                intro v' w' o' g' sn'
                have F' := Lib.hid (Fut.grown (hFj.out.trans (Fut.alloc _ _)) g' (fun y hy => (hM.out.block y hy).1))
                have o5 := Lib.hid o'
                clear o' g' sn'
                go_wp2
                go_roundw
                case rel => exact ⟨s + 1, by omega, by go_num, by rw [hts.out]; exact o5, F'⟩
                case measure => simp [intOf] <;> omega
              · obtain rfl : s = ks'.length := by omega
                rw [List.take_length] at hM
                go_wp2
                go_roundw
                case rel => exact ⟨k + 1, by omega, by go_num, by rw [hft.out, List.length_append]; omega, by rw [hft.out]; exact hM, hFj⟩
                case measure => simp [intOf] <;> omega
        · obtain rfl : k = L.length := by omega
          rw [List.take_length] at HN hfl
          have hb9 := hF.out.size
          have HN' := Lib.hid (HN.out.base hb9)
          have F9 := Lib.hid (hF.out.trans hFi.out)
          rw [List.take_length]
          generalize L.flatMap Ex.kids = G at *
          clear HN
          go_wp2
          go_roundw
          case rel => exact ⟨q', d + 1, G, hq'l, by omega, by go_num, by go_num, by omega, hsz', hdp', HN', F9⟩
          case measure => have := hqlt.out; simp [intOf] <;> omega
end Go.Proofs.YtackadhamghblaaGreat
/- Rows of 24 numbers: as values, as keys; are two the same?; a map from rows to numbers. No program. -/
namespace Go.Proofs.YtackadhamghblaaGreat
open Go.RowKit Go.WideMaps Go.Maps
open Go.ChangeMaps (setBlock heap_setBlock_same heap_setBlock_other)
set_option linter.unusedSimpArgs false
set_option linter.unusedVariables false

abbrev Rw := List Int
def Rw.ok (x : Rw) : Prop := x.length = 24 ∧ ∀ a ∈ x, (Lit.int .i32 a).wf = true
def Rw.cells (x : Rw) : List Value := x.map (Value.int .i32)
def Rw.val (x : Rw) : Value := .agg (Rw.cells x).toArray
def RR (_ : World) (cs : List Value) (x : Rw) : Prop := cs = Rw.cells x ∧ Rw.ok x
theorem RR.stays : Stays RR := fun _ _ _ _ _ h => h
theorem RR.one : ∀ (w : World) cs x, RR w cs x → ∀ u ∈ cs, u.oneCell' = true := fun w cs x h u hu => by
  obtain ⟨rfl, _⟩ := h
  simp only [Rw.cells, List.mem_map] at hu
  obtain ⟨a, _, rfl⟩ := hu
  rfl
theorem Rw.cells_len {x : Rw} (h : Rw.ok x) : (Rw.cells x).length = 24 := by simp [Rw.cells, h.1]
theorem ints_inj : ∀ {x y : List Int}, x.map (Value.int .i32) = y.map (Value.int .i32) → x = y
  | [], [], _ => rfl
  | [], _ :: _, h => by simp at h
  | _ :: _, [], h => by simp at h
  | a :: x, b :: y, h => by
    simp only [List.map_cons, List.cons.injEq, Value.int.injEq, true_and] at h
    rw [h.1, ints_inj h.2]
theorem Rw.val_inj {x y : Rw} (h : Rw.val x = Rw.val y) : x = y := by
  unfold Rw.val Rw.cells at h
  injection h with h
  exact ints_inj (congrArg Array.toList h)

theorem mapM_all {β : Type} {f : Nat → Option β} {g : Nat → β} : ∀ L : List Nat, (∀ i ∈ L, f i = some (g i)) → L.mapM f = some (L.map g)
  | [], _ => rfl
  | i :: L, h => by
    rw [List.mapM_cons, h i (by simp), mapM_all L fun j hj => h j (by simp [hj])]
    rfl

section
variable {P : Program} {k e : TypeId}
theorem keyOf_row (A : ArrKey P k e 24) (he : P.underlying e = some (.int .i32)) (hsz : ∃ m, P.types.size = m + 1) {x : Rw} (hx : Rw.ok x) : ∃ l, keyOf P k (Rw.val x) = some l := by
  have hkt := A.keyType hsz
  obtain ⟨m0, hm0⟩ := hsz
  have hl := Rw.cells_len hx
  refine ⟨.string (keyBytes ((List.range 24).map fun i => [Lit.int .i32 (x.getD i 0)]).flatten), ?_⟩
  unfold keyOf Rw.val
  simp only [A.hu]
  rw [if_pos (by simp [hkt, Value.formed, A.hu, A.size, hl]), hm0]
  unfold Program.keyLits
  simp only [A.hu, Value.cells]
  rw [if_pos (by rw [A.size]; exact hl), mapM_all (g := fun i => [Lit.int .i32 (x.getD i 0)])]
  · rfl
  · intro i hi
    have hi24 : i < 24 := List.mem_range.1 hi
    have hix : i < x.length := by rw [hx.1]; exact hi24
    rw [A.one, Nat.mul_one]
    have h1 : ((Rw.cells x).drop i).take 1 = [.int .i32 (x.getD i 0)] := by
      rw [List.drop_eq_getElem_cons (by rw [hl]; exact hi24)]
      simp [Rw.cells, List.getD, hix]
    rw [h1]
    have hw : (Lit.int .i32 (x.getD i 0)).wf = true := hx.2 _ (by simp [List.getD, hix])
    simp only [Program.keyLits, he]
    rw [if_pos ⟨trivial, hw⟩]

/-- The key's law. -/
theorem row_keyed (A : ArrKey P k e 24) : Keyed P k := Keyed.of_law A.law

theorem run_equal_row (A : ArrKey P k e 24) (he : P.underlying e = some (.int .i32)) (hsz : ∃ m, P.types.size = m + 1) {x y : Rw} (hx : Rw.ok x) (hy : Rw.ok y) (w : World) :
    (Op.equal k (Rw.val x) (Rw.val y)).run P w = .ok (decide (x = y)) w := by
  obtain ⟨lx, h1⟩ := keyOf_row A he hsz hx
  obtain ⟨ly, h2⟩ := keyOf_row A he hsz hy
  obtain ⟨r, hr, hiff⟩ := run_equal_deep (P := P) w (m := 2) (by omega) (A.at 0) A.wide h1 h2
  rw [hr]
  congr 1
  cases hxy : decide (x = y) with
  | true =>
    have e1 : x = y := of_decide_eq_true hxy
    subst e1
    rw [h1] at h2
    exact hiff.2 (Option.some.inj h2)
  | false =>
    cases r with
    | false => rfl
    | true =>
      have e1 := hiff.1 rfl
      subst e1
      exact absurd (Rw.val_inj ((row_keyed A).inj h1 h2)) (of_decide_eq_false hxy)
theorem run_eql_row (A : ArrKey P k e 24) (he : P.underlying e = some (.int .i32)) (hsz : ∃ m, P.types.size = m + 1) {x y : Rw} (hx : Rw.ok x) (hy : Rw.ok y) (w : World) :
    (binOp .eql k (Rw.val x) (Rw.val y)).run P w = .ok (.bool (decide (x = y))) w := by
  have h := run_equal_row A he hsz hx hy w
  unfold Rw.val at h ⊢
  simp only [binOp]
  simp [h]
theorem run_neq_row (A : ArrKey P k e 24) (he : P.underlying e = some (.int .i32)) (hsz : ∃ m, P.types.size = m + 1) {x y : Rw} (hx : Rw.ok x) (hy : Rw.ok y) (w : World) :
    (binOp .neq k (Rw.val x) (Rw.val y)).run P w = .ok (.bool (!decide (x = y))) w := by
  have h := run_equal_row A he hsz hx hy w
  unfold Rw.val at h ⊢
  simp only [binOp]
  simp [h]

/-- Block b is a map that has the number f x at the row x. -/
def MapR (w : World) (b : Nat) (f : Rw → Option Int) : Prop :=
  ∃ es clock, w.heap[b]? = some (.map es clock) ∧ (∀ e ∈ es.toList, ∃ x v, Rw.ok x ∧ e.key = Rw.val x ∧ e.val = .int .i64 v ∧ f x = some v) ∧ (∀ x v, f x = some v → ∃ e ∈ es.toList, e.key = Rw.val x)
theorem MapR.new (w : World) : MapR (w.alloc (.map #[] 0)) w.heap.size (fun _ => none) :=
  ⟨#[], 0, heap_alloc_new w _, fun e he => by simp at he, fun x v h => by cases h⟩
theorem MapR.lt {w : World} {b : Nat} {f : Rw → Option Int} (h : MapR w b f) : b < w.heap.size := by
  obtain ⟨es, c, h1, _⟩ := h
  exact (Array.getElem?_eq_some_iff.1 h1).1
theorem MapR.kept {w w' : World} {b : Nat} {f : Rw → Option Int} (h : MapR w b f) (hs : w'.heap[b]? = w.heap[b]?) : MapR w' b f := by
  obtain ⟨es, c, h1, h2⟩ := h
  exact ⟨es, c, hs.trans h1, h2⟩
theorem MapR.find {w : World} {b : Nat} {f : Rw → Option Int} {es : Array MapEntry} (A : ArrKey P k e 24) (he : P.underlying e = some (.int .i32)) (hsz : ∃ m, P.types.size = m + 1)
    (h1 : ∀ e ∈ es.toList, ∃ x v, Rw.ok x ∧ e.key = Rw.val x ∧ e.val = .int .i64 v ∧ f x = some v) (h2 : ∀ x v, f x = some v → ∃ e ∈ es.toList, e.key = Rw.val x) {x : Rw} (hx : Rw.ok x) :
    (f x = none ∧ (Instr.findKey k (Rw.val x) es.toList).run P w = .ok none w) ∨ ∃ v j, f x = some v ∧ (Instr.findKey k (Rw.val x) es.toList).run P w = .ok (some (j, .int .i64 v)) w := by
  obtain ⟨lx, hlx⟩ := keyOf_row A he hsz hx
  rcases (row_keyed A).find w hlx es.toList (fun y hy => by
    obtain ⟨z, v, hz, hk, _⟩ := h1 y hy
    rw [hk]
    exact keyOf_row A he hsz hz) with ⟨h3, h4⟩ | ⟨j, y, h3, h4, h5⟩
  · refine .inl ⟨?_, h3⟩
    cases hf : f x with
    | none => rfl
    | some v =>
      obtain ⟨y, hy, hk⟩ := h2 x v hf
      exact absurd hk (h4 y hy)
  · obtain ⟨z, v, hz, hk, hv, hf⟩ := h1 y (List.mem_of_getElem? h4)
    have e1 : z = x := Rw.val_inj (hk.symm.trans h5)
    subst e1
    exact .inr ⟨v, j, hf, by rw [h3, hv]⟩
theorem MapR.lookup {w : World} {b : Nat} {f : Rw → Option Int} {t ev : TypeId} (h : MapR w b f) (A : ArrKey P k e 24) (he : P.underlying e = some (.int .i32)) (hsz : ∃ m, P.types.size = m + 1) (ht : P.underlying t = some (.map k ev))
    (hz : ∀ w, (zeroValue ev).run P w = .ok (.int .i64 0) w) {x : Rw} (hx : Rw.ok x) :
    (Instr.lookup t (.map (some b)) (Rw.val x) true).run P w = .ok (.tuple #[.int .i64 ((f x).getD 0), .bool (f x).isSome]) w := by
  obtain ⟨es, c, hb, h1, h2⟩ := h
  obtain ⟨lx, hlx⟩ := keyOf_row A he hsz hx
  rcases MapR.find (w := w) (b := b) A he hsz h1 h2 hx with ⟨h3, h4⟩ | ⟨v, j, h3, h4⟩
  · simp [Instr.lookup, run_underlying ht, MapKept.run_getObj_map hb, (row_keyed A).check w _ hlx, h4, h3, hz, Result.andThen]
  · simp [Instr.lookup, run_underlying ht, MapKept.run_getObj_map hb, (row_keyed A).check w _ hlx, h4, h3, Result.andThen]
theorem MapR.push {w : World} {b : Nat} {f : Rw → Option Int} {t ev : TypeId} (h : MapR w b f) (A : ArrKey P k e 24) (he : P.underlying e = some (.int .i32)) (hsz : ∃ m, P.types.size = m + 1) (ht : P.underlying t = some (.map k ev))
    {x : Rw} (hx : Rw.ok x) (hn : f x = none) (v : Int) :
    ∃ w', (Instr.mapUpdate t (.map (some b)) (Rw.val x) (.int .i64 v)).run P w = .ok () w' ∧ MapR w' b (fun y => if y = x then some v else f y) ∧ w.grownBy w' (some b) := by
  obtain ⟨es, c, hb, h1, h2⟩ := h
  obtain ⟨lx, hlx⟩ := keyOf_row A he hsz hx
  rcases MapR.find (w := w) (b := b) A he hsz h1 h2 hx with ⟨_, h4⟩ | ⟨v, j, h3, h4⟩
  · refine ⟨setBlock w b (.map (es.push { key := Rw.val x, val := .int .i64 v, born := c }) (c + 1)), ?_, ⟨_, _, heap_setBlock_same hb _, ?_, ?_⟩, ⟨rfl, rfl, rfl, by simp [setBlock], fun i _ hi => heap_setBlock_other hb _ (fun e => hi (by rw [e]))⟩⟩
    · simp [Instr.mapUpdate, run_underlying ht, MapKept.run_getObj_map hb, (row_keyed A).check w _ hlx, h4, MapKept.run_setObj_map _ hb, Result.andThen, setBlock]
    · intro e he
      simp only [Array.toList_push, List.mem_append, List.mem_singleton] at he
      rcases he with he | rfl
      · obtain ⟨y, u, hy, hk, hv, hf⟩ := h1 e he
        exact ⟨y, u, hy, hk, hv, by show (if y = x then some v else f y) = some u; rw [if_neg (fun e => by subst e; rw [hn] at hf; cases hf)]; exact hf⟩
      · exact ⟨x, v, hx, rfl, rfl, if_pos rfl⟩
    · intro y u hf
      replace hf : (if y = x then some v else f y) = some u := hf
      by_cases hyx : y = x
      · subst hyx
        exact ⟨{ key := Rw.val y, val := .int .i64 v, born := c }, by rw [Array.toList_push]; exact List.mem_append_right _ (by simp), rfl⟩
      · rw [if_neg hyx] at hf
        obtain ⟨e, he, hk⟩ := h2 y u hf
        exact ⟨e, by simp [he], hk⟩
  · rw [hn] at h3; cases h3
theorem MapR.clear {w : World} {b : Nat} {f : Rw → Option Int} {t ev : TypeId} (h : MapR w b f) (ht : P.underlying t = some (.map k ev)) (ty : TypeId) :
    ∃ w', (Builtin.clear_ #[t] ty #[.map (some b)]).run P w = .ok (.tuple #[]) w' ∧ MapR w' b (fun _ => none) ∧ w.grownBy w' (some b) := by
  obtain ⟨es, c, hb, h1, h2⟩ := h
  refine ⟨setBlock w b (.map #[] c), ?_, ⟨_, _, heap_setBlock_same hb _, fun e he => by simp at he, fun x v h => by cases h⟩, ⟨rfl, rfl, rfl, by simp [setBlock], fun i _ hi => heap_setBlock_other hb _ (fun e => hi (by rw [e]))⟩⟩
  simp [Builtin.clear_, run_underlying ht, MapKept.run_getObj_map hb, MapKept.run_setObj_map _ hb, Result.andThen, setBlock]
end
end Go.Proofs.YtackadhamghblaaGreat
/- A range over a function: what an iterator promises, round by round; the statement's law. No program. -/
namespace Go.Proofs.YtackadhamghblaaGreat
open Go.RowKit
set_option linter.unusedSimpArgs false
set_option linter.unusedVariables false

/-- What lay from block a to block b lies there still. -/
def Mid (a b : Nat) (W W' : World) : Prop := W.heap.size ≤ W'.heap.size ∧ ∀ k, a ≤ k → k < b → W'.heap[k]? = W.heap[k]?
theorem Mid.refl (a b : Nat) (W : World) : Mid a b W W := ⟨Nat.le_refl _, fun _ _ _ => rfl⟩
theorem Mid.trans {a b : Nat} {A B C : World} (h : Mid a b A B) (k : Mid a b B C) : Mid a b A C := ⟨Nat.le_trans h.1 k.1, fun i h1 h2 => (k.2 i h1 h2).trans (h.2 i h1 h2)⟩
theorem Mid.of_fut {a b : Nat} {W W' : World} (h : Fut W W') (hb : b ≤ W.heap.size) : Mid a b W W' := ⟨h.size, fun k _ h2 => Below.block h k (by omega)⟩
theorem Mid.less {a b a' b' : Nat} {W W' : World} (h : Mid a b W W') (h1 : a ≤ a') (h2 : b' ≤ b) : Mid a' b' W W' := ⟨h.1, fun k h3 h4 => h.2 k (by omega) (by omega)⟩
theorem Mid.grown {a b : Nat} {W W' : World} {row : Option Nat} (hg : W.grownBy W' row) (hb : b ≤ W.heap.size) (hr : ∀ k, row = some k → k < a ∨ b ≤ k) : Mid a b W W' :=
  ⟨hg.size, fun k h1 h2 => hg.block k (by omega) (fun e => by have := hr k e.symm; omega)⟩

/-- An iterator: it asks for the rounds 0, 1, .., N - 1, round k with 'args k'; it makes memory of its own and turns nothing else; of its own memory it wants each round to keep what was made ahead of the first one. -/
def IterAt (P : Program) (gf : Nat) (lb : Array Value) (N : Nat) (args : Nat → Array Value) (w : World) : Prop :=
  ∀ (l : Nat) (J : Nat → Nat → World → Prop) (Jx : Nat → World → Prop),
    (∀ w1, Fut w w1 → J w1.heap.size 0 w1) → (∀ s k W W', Fut W W' → J s k W → J s k W') →
    (∀ s k W, w.heap.size ≤ s → s ≤ W.heap.size → k < N → J s k W → YieldAt Fence.wide 2 P l (args k) W fun e W' =>
      (e = .returned (.bool true) ∧ J s (k + 1) W' ∧ Mid w.heap.size s W W') ∨ (e = .returned (.bool false) ∧ Jx s W')) →
    Calls P gf (#[.func (.yield l) #[] #[]] ++ lb) w fun e W' => (∃ v, e = .returned v) ∧ ((∃ s, J s N W') ∨ ∃ s, Jx s W')

/-- How a round's body may be left. -/
def roundOut (a s : Nat) (I : World → Prop) (Ix : Code → World → Prop) (W : World) : Exit → Act → World → Prop
  | .normal, _, W' => Mid a s W W' ∧ I W'
  | .ret, _, W' => Mid a s W W' ∧ Ix .ret W'
  | .exit id, _, W' => Mid a s W W' ∧ Ix (.exit id) W'
  | .goto t, _, W' => Mid a s W W' ∧ Ix (.goto t) W'
  | .panic _, _, _ => False
  | .outgrown, _, _ => False

theorem wp_range {P : Program} {g : Operand} {ps : Array Tmp} {assign body : Code} {Q : Exit → Act → World → Prop} {a : Act} {w : World} {gf : Nat} {lb : Array Value}
    (hg : a.eval g = .func (.func gf) #[] lb) (eg : ∀ args w, (callFunc gf args).run P w = .ok (.enter gf args) w) {N : Nat} {args : Nat → Array Value}
    (hit : ∀ w1, Fut w w1 → IterAt P gf lb N args w1) (hps : ∀ k, k < N → (args k).size = ps.size)
    (I : Nat → Nat → World → Prop) (Ix : Code → Nat → World → Prop)
    (hIf : ∀ s k W W', Fut W W' → I s k W → I s k W') (hI : ∀ s k W l o, w.heap.size ≤ l → l < w.heap.size + 2 → w.heap.size + 2 ≤ s → I s k W → I s k (W.putObj l o)) (hIx : ∀ c s W l o, w.heap.size ≤ l → l < w.heap.size + 2 → w.heap.size + 2 ≤ s → Ix c s W → Ix c s (W.putObj l o))
    (h0 : ∀ w1, Fut w w1 → w.heap.size + 2 ≤ w1.heap.size → I w1.heap.size 0 w1)
    (hbody : ∀ l s k W, w.heap.size ≤ l → l < w.heap.size + 2 → w.heap.size + 2 ≤ s → s ≤ W.heap.size → k < N → I s k W → (∃ r, W.heap[l]? = some (.loop r)) →
      assign.wpIn (Fence.wide.inRound l) 2 P (Exit.then (fun a₁ W₁ => Mid w.heap.size s W W₁ ∧ ∀ o, body.wpIn (Fence.wide.inRound l) 2 P (roundOut w.heap.size s (I s (k + 1)) (fun c => Ix c s) (W₁.putObj l o)) a₁ (W₁.putObj l o)) (fun _ _ _ => False))
        { tmps := (ps.zip (args k)).foldl (fun t (p, v) => t.setIfInBounds p v) a.tmps, defers := [] } W)
    (hdone : ∀ s W, w.heap.size + 2 ≤ s → I s N W → W.heap[w.heap.size]? = some (.deferred (some [])) → Q .normal { a with defers := { target := .collected w.heap.size, args := #[] } :: a.defers } W)
    (hstop : ∀ s c W, w.heap.size + 2 ≤ s → Ix c s W → W.heap[w.heap.size]? = some (.deferred (some [])) → c.wp P Q { a with defers := { target := .collected w.heap.size, args := #[] } :: a.defers } W) :
    (Code.rangeFunc g ps assign body).wp P Q a w := by
  refine (wpIn_wide (n := 3)).1 (wpIn_rangeFunc ?_)
  intro fn hfn
  obtain ⟨rec, hrec⟩ : ∃ rec : LoopState → Option Code → Loop, rec = fun st pe => { state := st, pending := pe, fn, tmps := a.tmps, params := ps, assign, body, defers := w.heap.size } := ⟨_, rfl⟩
  obtain ⟨W1, hW1⟩ : ∃ W1, (w.alloc (.deferred (some []))).alloc (.loop (rec .ready none)) = W1 := ⟨_, rfl⟩
  have hL1 : W1.heap[w.heap.size + 1]? = some (.loop (rec .ready none)) := by
    rw [← hW1]; have := World.alloc_heap_new (w.alloc (.deferred (some []))) (.loop (rec .ready none)); rwa [World.size_alloc] at this
  have hK1 : W1.heap[w.heap.size]? = some (.deferred (some [])) := by
    rw [← hW1]; exact (Below.heap_alloc _ _ _ (by simp)).trans (World.alloc_heap_new w _)
  have hf1 : Fut w W1 := by rw [← hW1]; exact (Fut.alloc _ _).trans (Fut.alloc _ _)
  have hs1 : W1.heap.size = w.heap.size + 2 := by rw [← hW1]; simp
  refine ⟨w.heap.size + 1, [{ target := .collected w.heap.size, args := #[] }], W1, { target := .fn (.func gf) lb, args := #[.func (.yield (w.heap.size + 1)) #[] #[]] }, W1, gf,
    #[.func (.yield (w.heap.size + 1)) #[] #[]] ++ lb, W1, ?_, ?_, ?_, ?_, fun h => by simp [Fence.wide] at h, ?_⟩
  · rw [← hW1, hrec]; exact run_enterLoop_outer _ _ _ _ _
  · simp only [resolve, hg]
    simp [go_sem]
  · intro f' hf'; trivial
  · simp [invoke, go_sem, eg]
  · refine callsIn_wide.2 ?_
    refine (hit W1 hf1 (w.heap.size + 1)
      (fun s k W => I (max s (w.heap.size + 2)) k W ∧ W.heap[w.heap.size + 1]? = some (.loop (rec .ready none)) ∧ W.heap[w.heap.size]? = some (.deferred (some [])))
      (fun s W => ∃ c, Ix c (max s (w.heap.size + 2)) W ∧ W.heap[w.heap.size + 1]? = some (.loop (rec .done (some c))) ∧ W.heap[w.heap.size]? = some (.deferred (some []))) ?_ (fun s k W W' hf hj => ⟨hIf _ _ _ _ hf hj.1, hf.block hj.2.1, hf.block hj.2.2⟩) ?_).mono ?_
    · intro w1 hf
      have hsz := hf.size
      refine ⟨?_, hf.block hL1, hf.block hK1⟩
      rw [Nat.max_eq_left (by omega)]
      exact h0 w1 (hf1.trans hf) (by omega)
    · rintro s k W hs hsW hk ⟨hi, hl, hd⟩
      rw [hs1] at hs
      rw [Nat.max_eq_left hs] at hi
      have hlt : w.heap.size + 1 < W.heap.size := (Array.getElem?_eq_some_iff.1 hl).1
      have hy := run_yield (P := P) (args := args k) hl (by rw [hrec]; exact hps k hk)
      rw [hrec] at hy
      refine ⟨fn, _, assign, body, hy, roundIn_of_wpIn hfn ?_⟩
      clear hy
      refine wpIn_mono (hbody (w.heap.size + 1) s k W (by omega) (by omega) hs hsW hk hi ⟨_, hl⟩) ?_
      intro e a1 Wa hp
      cases e with
      | normal =>
        obtain ⟨hm, hp⟩ := hp
        have hla : Wa.heap[w.heap.size + 1]? = some (.loop (rec .ready none)) := (hm.2 _ (by omega) (by omega)).trans hl
        have hda : Wa.heap[w.heap.size]? = some (.deferred (some [])) := (hm.2 _ (by omega) (by omega)).trans hd
        have hlta : w.heap.size + 1 < Wa.heap.size := (Array.getElem?_eq_some_iff.1 hla).1
        refine ⟨_, run_beginRound hla (by rw [hrec]), ?_⟩
        have hl2 : (Wa.putObj (w.heap.size + 1) (.loop { rec .ready none with state := .busy })).heap[w.heap.size + 1]? = some (.loop { rec .ready none with state := .busy }) := World.putObj_heap_same hlta
        have hd2 : (Wa.putObj (w.heap.size + 1) (.loop { rec .ready none with state := .busy })).heap[w.heap.size]? = some (.deferred (some [])) := (World.putObj_heap_other (by omega)).trans hda
        refine wpIn_mono (hp _) ?_
        have fin : ∀ (jump : Option Code) (W3 : World), Mid w.heap.size s (Wa.putObj (w.heap.size + 1) (.loop { rec .ready none with state := .busy })) W3 →
            (Instr.endRound (w.heap.size + 1) jump).run P W3 = .ok (.bool jump.isNone) (W3.putObj (w.heap.size + 1) (.loop (rec (if jump.isNone then .ready else .done) jump))) ∧
            (W3.putObj (w.heap.size + 1) (.loop (rec (if jump.isNone then .ready else .done) jump))).heap[w.heap.size + 1]? = some (.loop (rec (if jump.isNone then .ready else .done) jump)) ∧
            (W3.putObj (w.heap.size + 1) (.loop (rec (if jump.isNone then .ready else .done) jump))).heap[w.heap.size]? = some (.deferred (some [])) := fun jump W3 hk3 => by
          have hl3 := (hk3.2 (w.heap.size + 1) (by omega) (by omega)).trans hl2
          have hd3 := (hk3.2 w.heap.size (by omega) (by omega)).trans hd2
          have := run_endRound (P := P) jump hl3
          rw [hrec] at this ⊢
          exact ⟨this, World.putObj_heap_same (Array.getElem?_eq_some_iff.1 hl3).1, (World.putObj_heap_other (by omega)).trans hd3⟩
        rintro e a3 W3 hp
        have hput : ∀ o o' : Obj, Mid w.heap.size s (Wa.putObj (w.heap.size + 1) o) W3 → Mid W1.heap.size s W (W3.putObj (w.heap.size + 1) o') := fun o o' hm3 =>
          ⟨by rw [World.putObj_size]; have h1 := hm3.1; rw [World.putObj_size] at h1; exact Nat.le_trans hm.1 h1, fun j h1 h2 => by
            rw [hs1] at h1
            rw [World.putObj_heap_other (by omega), hm3.2 j (by omega) h2, World.putObj_heap_other (by omega), hm.2 j (by omega) h2]⟩
        cases e with
        | normal =>
          obtain ⟨hm3, hi3⟩ := hp
          obtain ⟨hr, hl4, hd4⟩ := fin none W3 hm3
          exact ⟨_, _, hr, .inl ⟨rfl, ⟨by rw [Nat.max_eq_left hs]; exact hI s _ _ _ _ (by omega) (by omega) hs hi3, hl4, hd4⟩, hput _ _ hm3⟩⟩
        | ret =>
          obtain ⟨hm3, hi3⟩ := hp
          obtain ⟨hr, hl4, hd4⟩ := fin (some .ret) W3 hm3
          exact ⟨_, _, hr, .inr ⟨rfl, .ret, by rw [Nat.max_eq_left hs]; exact hIx _ s _ _ _ (by omega) (by omega) hs hi3, hl4, hd4⟩⟩
        | exit id =>
          obtain ⟨hm3, hi3⟩ := hp
          obtain ⟨hr, hl4, hd4⟩ := fin (some (.exit id)) W3 hm3
          exact ⟨_, _, hr, .inr ⟨rfl, .exit id, by rw [Nat.max_eq_left hs]; exact hIx _ s _ _ _ (by omega) (by omega) hs hi3, hl4, hd4⟩⟩
        | goto t =>
          obtain ⟨hm3, hi3⟩ := hp
          obtain ⟨hr, hl4, hd4⟩ := fin (some (.goto t)) W3 hm3
          exact ⟨_, _, hr, .inr ⟨rfl, .goto t, by rw [Nat.max_eq_left hs]; exact hIx _ s _ _ _ (by omega) (by omega) hs hi3, hl4, hd4⟩⟩
        | panic ch => exact hp.elim
        | outgrown => exact hp.elim
      | ret => exact hp.elim
      | exit id => exact hp.elim
      | goto t => exact hp.elim
      | panic ch => exact hp.elim
      | outgrown => exact hp.elim
    · rintro e W2 ⟨⟨v, rfl⟩, (⟨s, hi, hl, hd⟩ | ⟨s, c, hi, hl, hd⟩)⟩
      · exact ⟨none, _, by have := run_endLoop (P := P) hl (by rw [hrec]; simp); rw [hrec] at this; exact this, hdone _ _ (Nat.le_max_right _ _) (hI _ _ _ _ _ (by omega) (by omega) (Nat.le_max_right _ _) hi) ((World.putObj_heap_other (by omega)).trans hd)⟩
      · exact ⟨some c, _, by have := run_endLoop (P := P) hl (by rw [hrec]; simp); rw [hrec] at this; exact this, (wpIn_wide (n := 3)).2 (hstop _ c _ (Nat.le_max_right _ _) (hIx _ _ _ _ _ (by omega) (by omega) (Nat.le_max_right _ _) hi) ((World.putObj_heap_other (by omega)).trans hd))⟩
end Go.Proofs.YtackadhamghblaaGreat
/- Rows in memory: read and written whole; what may have turned. No program. -/
namespace Go.Proofs.YtackadhamghblaaGreat
open Go.RowKit Go.WideMaps
set_option linter.unusedSimpArgs false
set_option linter.unusedVariables false

/-! ### What may have turned -/
/-- Nothing but the blocks of S has turned. -/
structure Only (S : Nat → Prop) (w w' : World) : Prop where
  os : w'.os = w.os
  tape : w'.tape = w.tape
  output : w'.output = w.output
  size : w.heap.size ≤ w'.heap.size
  block : ∀ k, k < w.heap.size → ¬ S k → w'.heap[k]? = w.heap[k]?
theorem Only.fut {S : Nat → Prop} {w w' : World} (h : Fut w w') : Only S w w' := ⟨h.os, h.tape, h.output, h.size, fun k hk _ => Below.block h k hk⟩
theorem Only.toFut {S : Nat → Prop} {w w' : World} (h : Only S w w') (hS : ∀ k, S k → w.heap.size ≤ k) : Fut w w' := ⟨h.os, h.tape, h.output, h.size, fun k hk => h.block k hk fun hs => by have := hS k hs; omega⟩
theorem Only.refl {S : Nat → Prop} (w : World) : Only S w w := Only.fut (Fut.refl w)
theorem Only.trans {S : Nat → Prop} {a b c : World} (h : Only S a b) (k : Only S b c) : Only S a c :=
  ⟨k.os.trans h.os, k.tape.trans h.tape, k.output.trans h.output, Nat.le_trans h.size k.size, fun i hi hn => (k.block i (Nat.lt_of_lt_of_le hi h.size) hn).trans (h.block i hi hn)⟩
theorem Only.mono {S S' : Nat → Prop} {w w' : World} (h : Only S w w') (hS : ∀ k, k < w.heap.size → S k → S' k) : Only S' w w' :=
  ⟨h.os, h.tape, h.output, h.size, fun k hk hn => h.block k hk fun hs => hn (hS k hk hs)⟩
/-- .. the second step turns what the first may turn, or what is new. -/
theorem Only.then {S S' : Nat → Prop} {a b c : World} (h : Only S a b) (k : Only S' b c) (hS : ∀ i, S' i → i < a.heap.size → S i) : Only S a c :=
  ⟨k.os.trans h.os, k.tape.trans h.tape, k.output.trans h.output, Nat.le_trans h.size k.size, fun i hi hn => (k.block i (Nat.lt_of_lt_of_le hi h.size) (fun hs => hn (hS i hs hi))).trans (h.block i hi hn)⟩
theorem Only.grown {S : Nat → Prop} {w w' : World} {row : Option Nat} (hg : w.grownBy w' row) (hS : ∀ k, row = some k → S k) : Only S w w' :=
  ⟨hg.os, hg.tape, hg.output, hg.size, fun k hk hn => hg.block k hk (fun e => hn (hS k e.symm))⟩
theorem Only.set {S : Nat → Prop} {w : World} (p : Addr) (v : Value) (hS : S p.block) : Only S w (w.setCell p v) :=
  ⟨rfl, rfl, rfl, by show _ ≤ (w.heap.modify _ _).size; rw [Array.size_modify]; exact Nat.le_refl _, fun k hk hn => Below.heap_setCell w p v k (fun e => hn (e ▸ hS))⟩
theorem Only.put {S : Nat → Prop} {w : World} (g : Nat) (o : Obj) (hS : S g) : Only S w (w.putObj g o) :=
  ⟨rfl, rfl, rfl, by simp [World.putObj], fun k hk hn => World.putObj_heap_other (fun e => hn (e ▸ hS))⟩
theorem Only.keeps {S : Nat → Prop} {w w' : World} (h : Only S w w') {k : Nat} {o : Obj} (ho : w.heap[k]? = some o) (hn : ¬ S k) : w'.heap[k]? = some o :=
  (h.block k (Array.getElem?_eq_some_iff.1 ho).1 hn).trans ho
theorem Only.cell {S : Nat → Prop} {w w' : World} (h : Only S w w') {p : Addr} {v : Value} (hc : w.cell? p = some v) (hn : ¬ S p.block) : w'.cell? p = some v :=
  (World.cell?_of_block (h.block p.block (lt_of_cell hc) hn)).trans hc

/-! ### Rows in memory -/
/-- The row x lies in block b from offset off on. -/
def RowAt (w : World) (b off : Nat) (x : Rw) : Prop := Rw.ok x ∧ ∀ j c, (Rw.cells x)[j]? = some c → w.cell? ⟨b, off + j, none⟩ = some c
theorem RowAt.fut {w w' : World} {b off : Nat} {x : Rw} (h : RowAt w b off x) (hf : Fut w w') : RowAt w' b off x := ⟨h.1, fun j c hj => hf.cell (h.2 j c hj)⟩
theorem RowAt.only {S : Nat → Prop} {w w' : World} {b off : Nat} {x : Rw} (h : RowAt w b off x) (ho : Only S w w') (hn : ¬ S b) : RowAt w' b off x := ⟨h.1, fun j c hj => ho.cell (h.2 j c hj) hn⟩
theorem RowAt.of_block {w : World} {b : Nat} {t : TypeId} {fr : Nat × Nat} {x : Rw} (hx : Rw.ok x) (h : w.heap[b]? = some (.cells (Rw.cells x).toArray t fr)) : RowAt w b 0 x := ⟨hx, fun j c hj => by
  rw [Nat.zero_add]; simp [World.cell?, h, hj]⟩
theorem RowAt.new (w : World) (t : TypeId) {x : Rw} (hx : Rw.ok x) : RowAt (w.alloc (.cells (Rw.cells x).toArray t)) w.heap.size 0 x := RowAt.of_block hx (heap_alloc_new w _)
/-- An element of a list of rows. -/
theorem rows_at {w : World} {A : Option Addr} {n cap M : Nat} {xs : List Rw} (h : SlRep 24 M RR w (.slice A n cap) xs) {k : Nat} (hk : k < xs.length) : ∃ b off, A = some ⟨b, off, none⟩ ∧ RowAt w b (off + k * 24) xs[k] := by
  obtain ⟨A1, cap1, hv, _, _, h3⟩ := h
  obtain ⟨b, off, cs, hA, hl, hc, hr⟩ := h3 k _ (List.getElem?_eq_getElem hk)
  injection hv with hv _ _
  refine ⟨b, off, hv.trans hA, hr.2, fun j c hj => ?_⟩
  rw [← hr.1] at hj
  rw [Nat.add_assoc]
  exact hc j c hj
theorem rows_ok {w : World} {v : Value} {M : Nat} {xs : List Rw} (h : SlRep 24 M RR w v xs) : ∀ x ∈ xs, Rw.ok x := by
  obtain ⟨A, cap, _, _, _, h3⟩ := h
  intro x hx
  obtain ⟨i, hi⟩ := List.getElem?_of_mem hx
  obtain ⟨_, _, _, _, _, _, hr⟩ := h3 i x hi
  exact hr.2

structure RowTy (P : Program) (k e : TypeId) : Prop where
  A : ArrKey P k e 24
  he : P.underlying e = some (.int .i32)
  hsz : ∃ m, P.types.size = m + 1
  hi : (P.info? k).map (·.size) = some 24
section
variable {P : Program} {k e : TypeId} {w : World} {b off : Nat} {r : Rw} {o : Oper} {a : Act}
theorem run_loadVar_R (T : RowTy P k e) (hr : RowAt w b off r) : (loadVar k ⟨b, off, none⟩).run P w = .ok (Rw.val r) w :=
  run_loadVar_mid w b off k (Rw.cells r) _ (fun j v hj => hr.2 j v hj) T.A.hu rfl (by rw [T.hi, Rw.cells_len hr.1])
theorem exec_load_R (T : RowTy P k e) (x : Operand) (ho : o.op = .load k x) (hx : a.eval x = .pointer (some ⟨b, off, none⟩)) (hr : RowAt w b off r) : (execOp a.eval o).run P w = .ok (.value (Rw.val r)) w := by
  unfold execOp
  simp only [ho, hx, Instr.loadAt, Instr.sureAddr, Sem.run_bind, Sem.run_pure, Result.andThen_ok, run_loadVar_R T hr]
theorem wpList_of_run {ops : Array Oper} {rest : List Oper} {Q : Exit → Act → World → Prop} {v : Value} {w' : World} (hgd : Region.wanted o (yielded ops a.tmps) = true)
    (hrun : (execOp a.eval o).run P w = .ok (.value v) w') (h : wpList P ops Q rest (a.put o.dst v) w') : wpList P ops Q (o :: rest) a w := by
  refine wpList_step fun K hK => ?_
  rw [if_pos hgd]
  unfold Oper.wp
  rw [hrun]
  exact hK _ _ h
theorem wpList_of_skip {ops : Array Oper} {rest : List Oper} {Q : Exit → Act → World → Prop} {w' : World} (hgd : Region.wanted o (yielded ops a.tmps) = true)
    (hrun : (execOp a.eval o).run P w = .ok .skip w') (h : wpList P ops Q rest (a.put o.dst undef) w') : wpList P ops Q (o :: rest) a w := by
  refine wpList_step fun K hK => ?_
  rw [if_pos hgd]
  unfold Oper.wp
  rw [hrun]
  exact hK _ _ h
theorem wpList_load_R {ops : Array Oper} {rest : List Oper} {Q : Exit → Act → World → Prop} (T : RowTy P k e) (hgd : Region.wanted o (yielded ops a.tmps) = true) (x : Operand) (ho : o.op = .load k x) (hx : a.eval x = .pointer (some ⟨b, off, none⟩)) (hr : RowAt w b off r)
    (h : wpList P ops Q rest (a.put o.dst (Rw.val r)) w) : wpList P ops Q (o :: rest) a w :=
  wpList_of_run hgd (exec_load_R T x ho hx hr) h

theorem setCells_put {t : TypeId} {fr : Nat × Nat} : ∀ (vs : List Value) (o : Nat) (w : World) (arr : Array Value), w.heap[b]? = some (.cells arr t fr) →
    ∃ arr', w.setCells b o vs = w.putObj b (.cells arr' t fr) ∧ arr'.size = arr.size ∧ ∀ j, arr'[j]? = if o ≤ j ∧ j < o + vs.length ∧ j < arr.size then vs[j - o]? else arr[j]?
  | [], o, w, arr, h => ⟨arr, by
      simp only [World.setCells, World.putObj]
      have hlt := (Array.getElem?_eq_some_iff.1 h)
      obtain ⟨hl, he⟩ := hlt
      have : w.heap.setIfInBounds b (.cells arr t fr) = w.heap := by
        refine Array.ext_getElem? fun i => ?_
        by_cases hi : i = b
        · subst hi; rw [h]; simp [hl]
        · rw [Array.getElem?_setIfInBounds_ne (Ne.symm hi)]
      rw [this], rfl, fun j => by rw [if_neg (by simp; omega)]⟩
  | v :: vs, o, w, arr, h => by
    have hs : (w.setCell ⟨b, o, none⟩ v).heap[b]? = some (.cells (arr.setIfInBounds o v) t fr) := by simp [World.setCell, Array.getElem?_modify, h]
    obtain ⟨arr', h1, h2, h3⟩ := setCells_put vs (o + 1) _ _ hs
    refine ⟨arr', ?_, by rw [h2]; simp, fun j => ?_⟩
    · simp only [World.setCells]
      rw [h1]
      simp only [World.putObj, World.setCell]
      congr 1
      refine Array.ext_getElem? fun i => ?_
      by_cases hi : i = b
      · subst hi
        have hl := (Array.getElem?_eq_some_iff.1 h).1
        simp [hl]
      · rw [Array.getElem?_setIfInBounds_ne (Ne.symm hi), Array.getElem?_setIfInBounds_ne (Ne.symm hi), Array.getElem?_modify, if_neg (Ne.symm hi)]
    · rw [h3]
      simp only [Array.size_setIfInBounds, List.length_cons]
      by_cases h4 : j = o
      · subst h4
        rw [if_neg (by omega)]
        by_cases h5 : j < arr.size
        · rw [if_pos (by omega)]; simp [h5]
        · rw [if_neg (by omega)]; simp [h5]
      · rw [Array.getElem?_setIfInBounds_ne (Ne.symm h4)]
        by_cases h5 : o + 1 ≤ j ∧ j < o + 1 + vs.length ∧ j < arr.size
        · rw [if_pos h5, if_pos (by omega), show j - o = (j - (o + 1)) + 1 by omega, List.getElem?_cons_succ]
        · rw [if_neg h5, if_neg (by omega)]
/-- A row is written over a block of 24 cells. -/
theorem exec_store_R (T : RowTy P k e) {t : TypeId} {arr : Array Value} (x y : Operand) (ho : o.op = .store k x y) (hx : a.eval x = .pointer (some ⟨b, 0, none⟩)) (hy : a.eval y = Rw.val r) (hb : w.heap[b]? = some (.cells arr t (0, 0))) (hs : arr.size = 24) (hr : Rw.ok r) :
    (execOp a.eval o).run P w = .ok .skip (w.putObj b (.cells (Rw.cells r).toArray t (0, 0))) := by
  have hl := Rw.cells_len hr
  have hsz : (Rw.cells r).toArray.size = 24 := by simpa using hl
  have h1 := run_storeVar_mid (P := P) w b 0 k (Rw.cells r).toArray (fun j hj => by
    rw [hsz] at hj
    refine ⟨?_, ?_⟩
    · rw [Nat.zero_add]; simp [World.cell?, hb]; try omega
    · simp [World.frozen?, hb]) (by rw [T.hi, hsz]) (all_oneCell_toArray fun v hv => RR.one w _ r ⟨rfl, hr⟩ v hv)
  obtain ⟨arr', h2, h3, h4⟩ := setCells_put (Rw.cells r) 0 w arr hb
  have e1 : arr' = (Rw.cells r).toArray := by
    refine Array.ext_getElem? fun j => ?_
    rw [h4]
    by_cases hj : j < 24
    · rw [if_pos (by omega)]; simp
    · rw [if_neg (by omega)]
      rw [Array.getElem?_eq_none (by omega), Array.getElem?_eq_none (by omega)]
  simp only at h1
  rw [h2, e1] at h1
  unfold execOp
  simp only [ho, hx, hy, Rw.val, Instr.storeAt, Instr.sureAddr, Sem.run_bind, Sem.run_pure, Result.andThen_ok, h1]
theorem putObj_alloc (w : World) (o o' : Obj) : (w.alloc o).putObj w.heap.size o' = w.alloc o' := by
  unfold World.putObj World.alloc
  congr 1
  refine Array.ext_getElem? fun j => ?_
  by_cases hj : j = w.heap.size
  · subst hj; simp
  · rw [Array.getElem?_setIfInBounds_ne (Ne.symm hj), Array.getElem?_push, Array.getElem?_push]
    simp [hj]
theorem wpList_store_R {ops : Array Oper} {rest : List Oper} {Q : Exit → Act → World → Prop} (T : RowTy P k e) (hgd : Region.wanted o (yielded ops a.tmps) = true) {t : TypeId} {arr : Array Value} (x y : Operand) (ho : o.op = .store k x y) (hx : a.eval x = .pointer (some ⟨b, 0, none⟩)) (hy : a.eval y = Rw.val r) (hb : w.heap[b]? = some (.cells arr t (0, 0))) (hs : arr.size = 24) (hr : Rw.ok r)
    (h : wpList P ops Q rest (a.put o.dst undef) (w.putObj b (.cells (Rw.cells r).toArray t (0, 0)))) : wpList P ops Q (o :: rest) a w :=
  wpList_of_skip hgd (exec_store_R T x y ho hx hy hb hs hr) h
/-- .. over one just made. -/
theorem wpList_store_new {ops : Array Oper} {rest : List Oper} {Q : Exit → Act → World → Prop} (T : RowTy P k e) (hgd : Region.wanted o (yielded ops a.tmps) = true) {t : TypeId} {arr : Array Value} (x y : Operand) (ho : o.op = .store k x y) (hx : a.eval x = .pointer (some ⟨w.heap.size, 0, none⟩)) (hy : a.eval y = Rw.val r) (hs : arr.size = 24) (hr : Rw.ok r)
    (h : wpList P ops Q rest (a.put o.dst undef) (w.alloc (.cells (Rw.cells r).toArray t))) : wpList P ops Q (o :: rest) a (w.alloc (.cells arr t)) := by
  refine wpList_store_R T hgd x y ho hx hy (heap_alloc_new w _) hs hr ?_
  rw [putObj_alloc]; exact h
end
@[simp] theorem Rw.val_cells (x : Rw) : (Rw.val x).cells = (Rw.cells x).toArray := rfl
end Go.Proofs.YtackadhamghblaaGreat
/- relation.Relation: what it is in memory; New, Arity, Len, Gone, At, Has. -/
namespace Go.Proofs.YtackadhamghblaaGreat
open Go.RowKit Go.WideMaps
set_option linter.unusedSimpArgs false
set_option linter.unusedVariables false

def zeroRow : Rw := [0, 0, 0, 0, 0, 0, 0, 0, 0, 0, 0, 0, 0, 0, 0, 0, 0, 0, 0, 0, 0, 0, 0, 0]
theorem zeroRow_ok : Rw.ok zeroRow := ⟨rfl, fun a ha => by
  have : a = 0 := by simpa [zeroRow] using ha
  subst this; decide⟩
/-- Where a row stands. -/
def idx (xs : List Rw) (x : Rw) : Option Int := if x ∈ xs then some ((xs.idxOf x : Nat) : Int) else none
theorem idx_isSome (xs : List Rw) (x : Rw) : (idx xs x).isSome = decide (x ∈ xs) := by
  unfold idx
  by_cases h : x ∈ xs <;> simp [h]
theorem idx_push {xs : List Rw} {x : Rw} (h : x ∉ xs) : (fun y => if y = x then some ((xs.length : Nat) : Int) else idx xs y) = idx (xs ++ [x]) := by
  funext y
  unfold idx
  by_cases hy : y = x
  · subst hy
    simp [h, List.idxOf_append]
  · rw [if_neg hy]
    by_cases hm : y ∈ xs
    · simp [hm, List.idxOf_append]
    · simp [hm, hy]

def pfoot (pb mb : Nat) (lv : Value) (k : Nat) : Prop := k = pb ∨ k = mb ∨ lv.ownBlock = some k
def foot (b pb mb : Nat) (lv : Value) (k : Nat) : Prop := k = b ∨ pfoot pb mb lv k
section
variable {B : Nat} {w w' : World} {b pb mb : Nat} {lv : Value} {ar gone : Nat} {xs : List Rw} {S : Nat → Prop}
theorem OwnL.only {α : Type} {sz : Nat} {e : TypeId} {R : World → List Value → α → Prop} {v : Value} {ys : List α} (h : OwnL sz B e R w v ys) (hR : ∀ cs x, R w cs x → R w' cs x) (hg : Only S w w') (hne : ∀ k, v.ownBlock = some k → ¬ S k) : OwnL sz B e R w' v ys := by
  obtain ⟨css, h1, h2, h3, h4⟩ := h
  refine ⟨css, h1, fun i cs x hi hx => ⟨(h2 i cs x hi hx).1, hR _ _ (h2 i cs x hi hx).2⟩, h3, ?_⟩
  rcases h4 with h4 | ⟨g, cap, cur, a1, a2, a3, a4⟩
  · exact .inl h4
  · exact .inr ⟨g, cap, cur, a1, a2, hg.keeps a3 (hne g (by rw [a1]; rfl)), a4⟩
theorem cell_at {g : Nat} {cs : Array Value} {t : TypeId} {fr : Nat × Nat} (h : w.heap[g]? = some (.cells cs t fr)) (j : Nat) (v : Value) (hj : cs[j]? = some v) : w.cell? ⟨g, j, none⟩ = some v := by
  simp [World.cell?, h, hj]
theorem free_at {g : Nat} {cs : Array Value} {t : TypeId} (h : w.heap[g]? = some (.cells cs t (0, 0))) (j : Nat) : w.frozen? ⟨g, j, none⟩ = false := by
  simp [World.frozen?, h]
end

/-! ### Is it there? Its arity, its rows, its number of those that are gone -/
end Go.Proofs.YtackadhamghblaaGreat
/- relation.New, At, Has. -/
namespace Go.Proofs.YtackadhamghblaaGreat
open Go.RowKit Go.WideMaps
set_option linter.unusedSimpArgs false
set_option linter.unusedVariables false

theorem zeros_eq : #[Value.int .i32 0, Value.int .i32 0, Value.int .i32 0, Value.int .i32 0, Value.int .i32 0, Value.int .i32 0, Value.int .i32 0, Value.int .i32 0, Value.int .i32 0, Value.int .i32 0, Value.int .i32 0, Value.int .i32 0, Value.int .i32 0, Value.int .i32 0, Value.int .i32 0, Value.int .i32 0, Value.int .i32 0, Value.int .i32 0, Value.int .i32 0, Value.int .i32 0, Value.int .i32 0, Value.int .i32 0, Value.int .i32 0, Value.int .i32 0] = (Rw.cells zeroRow).toArray := rfl
theorem results_row {P : Program} {k e : TypeId} {fn : Func} {p q : Tmp} {tmps : Array Value} {w : World} {g : Nat} {x : Rw} {v : Value} (h : fn.results = #[.cell p k, .tmp q]) (T : RowTy P k e)
    (hp : tmps.getD p undef = .pointer (some ⟨g, 0, none⟩)) (hr : RowAt w g 0 x) (hv : tmps.getD q undef = v) : (results fn tmps).run P w = .ok (.tuple #[Rw.val x, v]) w := by
  have hp' : tmps[p]?.getD undef = .pointer (some ⟨g, 0, none⟩) := by simpa using hp
  have hv' : tmps[q]?.getD undef = v := by simpa using hv
  simp [results, h, hp', hv', asAddr, run_loadVar_R T hr]
theorem zeroI (w : World) : (zeroValue 3).run Tryz.prog w = .ok (.int .i64 0) w := by kernel_rfl
theorem exec_lookup_R {P : Program} {k e t ev : TypeId} {w : World} {o : Oper} {a : Act} {b : Nat} {f : Rw → Option Int} {x : Rw} (T : RowTy P k e) (ht : P.underlying t = some (.map k ev)) (hz : ∀ w, (zeroValue ev).run P w = .ok (.int .i64 0) w) (m y : Operand)
    (ho : o.op = .lookup t m y true) (hm : a.eval m = .map (some b)) (hy : a.eval y = Rw.val x) (h : MapR w b f) (hx : Rw.ok x) :
    (execOp a.eval o).run P w = .ok (.value (.tuple #[.int .i64 ((f x).getD 0), .bool (f x).isSome])) w := by
  unfold execOp
  simp only [ho, hm, hy, Sem.run_bind, h.lookup T.A T.he T.hsz ht hz hx, Sem.run_pure, Result.andThen_ok]
theorem idx_nil : (fun _ => none) = idx [] := by funext x; simp [idx]
end Go.Proofs.YtackadhamghblaaGreat
