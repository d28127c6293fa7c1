/- Parts. -/
import Derived.Maps.AppendAt
import Derived.Great.BuildSlice
import Derived.Lib.AppendZerosOnto
import Derived.Test.YtdjffkkbjbiihaaGreatDoorE04
set_option linter.unusedSimpArgs false
set_option linter.unusedVariables false
namespace Go.Proofs.YtdjffkkbjbiihaaGreatDoor
open Go.RowKit
def Ex.kids : Ex → List Ex
 | .mk _ _ ks => ks
mutual
def Ex.size : Ex → Nat
 | .mk _ _ ks => 1 + Ex.sizes ks
def Ex.sizes : List Ex → Nat
 | [] => 0
 | k :: r => k.size + Ex.sizes r
end
mutual
def Ex.depth : Ex → Nat
 | .mk _ _ ks => 1 + Ex.depths ks
def Ex.depths : List Ex → Nat
 | [] => 0
 | k :: r => max k.depth (Ex.depths r)
end
theorem sizes_append : ∀ a b : List Ex, Ex.sizes (a ++ b) = Ex.sizes a + Ex.sizes b
 | [], b => by simp [Ex.sizes]
 | x :: a, b => by rw [List.cons_append, Ex.sizes, Ex.sizes, sizes_append a b]; omega
theorem depths_append : ∀ a b : List Ex, Ex.depths (a ++ b) = max (Ex.depths a) (Ex.depths b)
 | [], b => by simp [Ex.depths]
 | x :: a, b => by rw [List.cons_append, Ex.depths, Ex.depths, depths_append a b]; omega
theorem sizes_level : ∀ L : List Ex, Ex.sizes L = L.length + Ex.sizes (L.flatMap Ex.kids)
 | [] => by simp [Ex.sizes]
 | x :: r => by
  obtain ⟨op, t, ks⟩ := x
  rw [List.flatMap_cons, sizes_append, Ex.sizes, sizes_level r, Ex.size, List.length_cons]
  show 1 + Ex.sizes ks + _ = _ + (Ex.sizes ks + _)
  omega
theorem depths_level : ∀ L : List Ex, L ≠ [] → Ex.depths L = 1 + Ex.depths (L.flatMap Ex.kids)
 | [], h => absurd rfl h
 | x :: r, _ => by
  obtain ⟨op, t, ks⟩ := x
  rw [List.flatMap_cons, depths_append, Ex.depths, Ex.depth]
  show max (1 + Ex.depths ks) (Ex.depths r) = 1 + max (Ex.depths ks) _
  by_cases hr : r = []
  ·subst hr; simp [Ex.depths]
  ·rw [depths_level r hr]; omega
theorem ex_form {n : Nat} {w : World} {cs : List Value} {x : Ex} (h : RE n w cs x) : ∃ m op t ks A c, n = m + 1 ∧ x = .mk op t ks ∧ cs = [.int .i8 op, .string t.v, .int .i8 t.x.k, .int .i64 t.x.n, .string t.x.s, .slice A ks.length c] ∧ ks.length ≤ c ∧ c ≤ 1759218604441 ∧ SlRep 6 1759218604441 (RE m) w (.slice A ks.length c) ks := by
 cases n with
 | zero => exact h.elim
 | succ m =>
  obtain ⟨op, t, ks⟩ := x
  obtain ⟨kv, h1, h2, h3, h4⟩ := h
  obtain ⟨A, c, rfl, h5, h6⟩ := h4.form
  exact ⟨m, op, t, ks, A, c, rfl, rfl, h1, h5, h6, h4⟩
def RX0 (n : Nat) (w0 : World) (_ : World) (cs : List Value) (x : Ex) : Prop := RE n w0 cs x
theorem RX0.stays {n : Nat} {w0 : World} : Stays (RX0 n w0) := fun _ _ _ _ _ h => h
theorem RX0.keeps {n : Nat} {w0 : World} {e : TypeId} : Keeps e (RX0 n w0) := fun _ _ _ _ _ h _ _ => h
theorem RX0.one {n : Nat} {w0 : World} : ∀ (w : World) cs x, RX0 n w0 w cs x → ∀ u ∈ cs, u.oneCell' = true := fun w cs x h u hu => by
 obtain ⟨m, op, t, ks, A, c, _, _, rfl, _⟩ := ex_form h
 simp only [List.mem_cons, List.not_mem_nil, or_false] at hu
 rcases hu with rfl | rfl | rfl | rfl | rfl | rfl <;> rfl
theorem infoEx : (Tryz.prog.info? 117).map (fun i => (i.zero, i.size, i.bytes)) = some (some (.agg #[.int .i8 0, .string ⟨#[]⟩, .int .i8 0, .int .i64 0, .string ⟨#[]⟩, .slice none 0 0]), 6, 80) := by kernel_rfl
theorem exOne {n : Nat} {w0 w : World} {cs : List Value} {x : Ex} (h : RE n w0 cs x) (e : TypeId) : SlRep 6 1 (RX0 n w0) (w.alloc (.cells cs.toArray e)) (.slice (some ⟨w.heap.size, 0, none⟩) 1 1) [x] :=
 ⟨_, 1, rfl, Nat.le_refl _, Nat.le_refl _, fun i y hy => by
  have hi : i = 0 := by
   have := (List.getElem?_eq_some_iff.1 hy).1
   simp at this; omega
  subst hi
  simp at hy
  subst hy
  have hl : cs.length = 6 := by obtain ⟨m, op, t, ks, A, c, _, _, rfl, _⟩ := ex_form h; rfl
  refine ⟨w.heap.size, 0, cs, rfl, hl, fun j c hj => ?_, h⟩
  rw [show 0 + (0 * 6 + j) = j by omega]
  have h0 := heap_alloc_new w (.cells cs.toArray e)
  simp only [World.cell?, h0]
  simpa using hj⟩
theorem ex_at {M n : Nat} {w w0 : World} {A : Option Addr} {l cap : Nat} {xs : List Ex} (h : SlRep 6 M (RX0 n w0) w (.slice A l cap) xs) {k : Nat} (hk : k < xs.length) :
  ∃ b off m op t ks A' c, A = some ⟨b, off, none⟩ ∧ n = m + 1 ∧ xs[k] = .mk op t ks ∧ w.cell? ⟨b, off + k * 6, none⟩ = some (.int .i8 op) ∧ w.cell? ⟨b, off + k * 6 + 1, none⟩ = some (.string t.v) ∧ w.cell? ⟨b, off + k * 6 + 2, none⟩ = some (.int .i8 t.x.k) ∧
   w.cell? ⟨b, off + k * 6 + 3, none⟩ = some (.int .i64 t.x.n) ∧ w.cell? ⟨b, off + k * 6 + 4, none⟩ = some (.string t.x.s) ∧ w.cell? ⟨b, off + k * 6 + 5, none⟩ = some (.slice A' ks.length c) ∧ ks.length ≤ c ∧ c ≤ 1759218604441 ∧ SlRep 6 1759218604441 (RE m) w0 (.slice A' ks.length c) ks ∧
   RE n w0 [.int .i8 op, .string t.v, .int .i8 t.x.k, .int .i64 t.x.n, .string t.x.s, .slice A' ks.length c] xs[k] := by
 obtain ⟨A1, cap1, hv, _, _, h3⟩ := h
 obtain ⟨b, off, cs, hA, hl, hc, hr⟩ := h3 k _ (List.getElem?_eq_getElem hk)
 injection hv with hv _ _
 obtain ⟨m, op, t, ks, A', c, h4, h5, rfl, h6, h7, h8⟩ := ex_form hr
 exact ⟨b, off, m, op, t, ks, A', c, hv.trans hA, h4, h5, hc 0 _ rfl, hc 1 _ rfl, hc 2 _ rfl, hc 3 _ rfl, hc 4 _ rfl, hc 5 _ rfl, h6, h7, h8, hr⟩
theorem flat_take {L : List Ex} {i : Nat} (hi : i < L.length) : (L.take (i + 1)).flatMap Ex.kids = (L.take i).flatMap Ex.kids ++ L[i].kids := by
 rw [List.take_succ_eq_append_getElem hi, List.flatMap_append]; simp
theorem own_ex1 {n : Nat} {w0 w : World} {cs : List Value} {x : Ex} {B : Nat} (h : RE n w0 cs x) (e : TypeId) (hB : B ≤ w.heap.size) : OwnL 6 B e (RX0 n w0) (w.alloc (.cells cs.toArray e)) (.slice (some ⟨w.heap.size, 0, none⟩) 1 1) [x] := by
 have hl : cs.length = 6 := by obtain ⟨m, op, t, ks, A, c, _, _, rfl, _⟩ := ex_form h; rfl
 refine ⟨[cs], rfl, fun i ds z hi hz => ?_, ?_⟩
 ·have hil := (List.getElem?_eq_some_iff.1 hi).1
  simp at hil
  subst hil
  simp at hi hz
  subst hi; subst hz
  exact ⟨hl, h⟩
 ·refine ⟨by simp [hl], .inr ⟨w.heap.size, 1, _, rfl, hB, heap_alloc_new w _, Nat.le_refl _, by unfold maxLen; omega, by simp [hl], ?_⟩⟩
  simp [hl]
  exact List.take_of_length_le (by omega)
set_option maxHeartbeats 2000000 in
set_option maxRecDepth 100000 in
theorem exprParts_any {n : Nat} (x : Ex) (op : Int) (t : Tm) (kv : Value) (left : Nat) (w : World) (h : RE n w [.int .i8 op, .string t.v, .int .i8 t.x.k, .int .i64 t.x.n, .string t.x.s, kv] x) (hleft : left ≤ 1048576) :
  Calls Tryz.prog 189 #[.agg #[.int .i8 op, .string t.v, .int .i8 t.x.k, .int .i64 t.x.n, .string t.x.s, kv], .int .i64 left] w fun e w' => ∃ r : Nat, e = .returned (.int .i64 r) ∧ (r = left + 1 ∨ (r = x.size ∧ r ≤ left ∧ x.depth ≤ 65537)) ∧ Fut w w' := by
 obtain ⟨m, op', t', ks, A, c, hn, hx, hcs, hkc, hcm, hks⟩ := ex_form h
 injection hcs with q0 hcs; injection hcs with q1 hcs; injection hcs with q2 hcs; injection hcs with q3 hcs; injection hcs with q4 hcs; injection hcs with q5 _
 subst q5
 have H := Lib.hid h
 clear q0 q1 q2 q3 q4 h hx hks hn
 go_enter Tryz.func189, Tryz.ntmps189
 go_wp2_with fail
 have hO0 := own_ex1 (w := w.alloc (.cells #[.int .i8 op, .string t.v, .int .i8 t.x.k, .int .i64 t.x.n, .string t.x.s, .slice A ks.length c] 117)) (B := w.heap.size) H.out 117 (by simp)
 have hs0 : (w.alloc (.cells #[.int .i8 op, .string t.v, .int .i8 t.x.k, .int .i64 t.x.n, .string t.x.s, .slice A ks.length c] 117)).heap.size = w.heap.size + 1 := by simp
 rw [hs0] at hO0
 have F0 := (Fut.alloc w (.cells #[.int .i8 op, .string t.v, .int .i8 t.x.k, .int .i64 t.x.n, .string t.x.s, .slice A ks.length c] 117)).trans (Fut.alloc _ (.cells #[.int .i8 op, .string t.v, .int .i8 t.x.k, .int .i64 t.x.n, .string t.x.s, .slice A ks.length c] 117))
 have HO0 := Lib.hid hO0
 replace F0 := Lib.hid F0
 clear hO0 hs0
 go_loopw [5, 6, 7] (fun nn lv dp wr => ∃ (q d : Nat) (L : List Ex), q ≤ left ∧ q + L.length ≤ left + 1 ∧ nn = .int .i64 q ∧ dp = .int .i64 d ∧ d ≤ 65537 ∧ Hid (q + Ex.sizes L = x.size) ∧ Hid (x.depth = d + Ex.depths L) ∧ Hid (OwnL 6 w.heap.size 117 (RX0 n w) wr lv L) ∧ Hid (Fut w wr)) (fun nn _ _ _ => left - (intOf nn).toNat)
 case atStart => exact ⟨0, 0, [x], Nat.zero_le _, by simp, rfl, rfl, by omega, Lib.hid (by simp [Ex.sizes]), Lib.hid (by simp [Ex.depths]), HO0, F0⟩
 case round =>
  obtain ⟨q, d, L, hq, hqL, rfl, rfl, hd, hsz, hdp, hL, hF⟩ := hrel
  obtain ⟨wo, hwo⟩ : ∃ y, y = wr := ⟨_, rfl⟩
  subst hwo
  have hL0 := hL.out
  obtain ⟨AL, cL, hlv, hcl, hcm9⟩ := hL0.rep.form
  rw [hlv] at hL0
  rw [hlv]
  have HL := Lib.hid hL0
  clear hL0 hL
  by_cases hne : L.length = 0
  ·have hLn : L = [] := List.length_eq_zero_iff.1 hne
   subst hLn
   have r1 : q = x.size := by have := hsz.out; simpa [Ex.sizes] using this
   have r2 : x.depth ≤ 65537 := by have := hdp.out; simp [Ex.depths] at this; omega
   go_wp2
   go_ret
   exact ⟨q, rfl, .inr ⟨r1, hq, r2⟩, hF.out⟩
  ·have hpos : 0 < L.length := by omega
   have hposI : (0 : Int) < L.length := by omega
   have hlw : IntKind.i64.wrap ((left : Int) + 1) = ((left + 1 : Nat) : Int) := by rw [IntKind.wrap_i64]; omega
   by_cases hov : q + L.length > left
   ·have hovI : ((q : Int) + L.length) > left := by omega
    go_wp2
    go_ret
    exact ⟨left + 1, by first | rfl | simp, .inl rfl, hF.out⟩
   by_cases hdo : d > 65536
   ·have hovI : ¬ ((q : Int) + L.length) > left := by omega
    have hdI : (d : Int) > 65536 := by omega
    go_wp2
    go_ret
    exact ⟨left + 1, by first | rfl | simp, .inl rfl, hF.out⟩
   have hovI : ¬ ((q : Int) + L.length) > left := by omega
   have hdI : ¬ (d : Int) > 65536 := by omega
   have hsL := sizes_level L
   have hdL := depths_level L (fun e => hne (by rw [e]; rfl))
   have hsz' := Lib.hid (show q + L.length + Ex.sizes (L.flatMap Ex.kids) = x.size by have := hsz.out; omega)
   have hdp' := Lib.hid (show x.depth = d + 1 + Ex.depths (L.flatMap Ex.kids) by have := hdp.out; omega)
   clear hsL hdL hsz hdp
   go_wp2_with fail
   obtain ⟨q', hq'⟩ : ∃ q', q' = q + L.length := ⟨_, rfl⟩
   have hqc : ((q : Int) + L.length) = (q' : Int) := by omega
   try rw [hqc]
   have hq'l : q' ≤ left := by omega
   have hqlt := Lib.hid (show q < q' by omega)
   rw [← hq'] at hsz'
   replace hq' := Lib.hid hq'
   clear hqc hovI hov
   go_loopw [8, 9] (fun nx i wi => ∃ k : Nat, k ≤ L.length ∧ i = .int .i64 k ∧ q' + ((L.take k).flatMap Ex.kids).length ≤ left ∧ Hid (OwnL 6 wo.heap.size 117 (RX0 n w) wi nx ((L.take k).flatMap Ex.kids)) ∧ Hid (Fut wo wi)) (fun _ i _ => L.length - (intOf i).toNat)
   case atStart => exact ⟨0, Nat.zero_le _, rfl, by simpa using hq'l, Lib.hid OwnL.nil, Lib.hid (Fut.refl _)⟩
   case round =>
    obtain ⟨k, hk, rfl, hfl, hN, hFi⟩ := hrel
    obtain ⟨wi, hwi⟩ : ∃ y, y = wr := ⟨_, rfl⟩
    subst hwi
    obtain ⟨AN, cN, hnv, hcl2, hcm2⟩ := hN.out.rep.form
    have HN := Lib.hid hN.out
    rw [hnv] at HN
    rw [hnv]
    clear hN
    by_cases hlt : k < L.length
    ·obtain ⟨b, off, m', op', t', ks', A', c', rfl, hn', hxk, y0, y1, y2, y3, y4, y5, hc1, hc2, hks', _⟩ := ex_at HL.out.rep hlt
     have y5i := hFi.out.cell y5
     have hmn := Lib.hid (show m' ≤ n by omega)
     clear hn'
     have hft := flat_take hlt
     have hki : L[k].kids = ks' := by rw [hxk]; rfl
     rw [hki] at hft
     have hltI : (k : Int) < L.length := by omega
     have e0 : (0 : Int) ≤ k ∧ (k : Int) < L.length := by omega
     generalize (L.take k).flatMap Ex.kids = G at *
     have hw2 : IntKind.i64.wrap ((q' : Int) + G.length) = ((q' + G.length : Nat) : Int) := by rw [IntKind.wrap_i64]; omega
     have hw3 : IntKind.i64.wrap ((q' : Int) + G.length + ks'.length) = ((q' + G.length + ks'.length : Nat) : Int) := by rw [IntKind.wrap_i64]; omega
     clear y0 y1 y2 y3 y4 hxk hki
     replace hft := Lib.hid hft
     by_cases hov2 : q' + G.length + ks'.length > left
     ·have hovI2 : ((q' : Int) + G.length + ks'.length) > left := by omega
      go_wp2
      go_ret
      exact ⟨left + 1, by first | rfl | simp, .inl rfl, hF.out.trans hFi.out⟩
     ·have hovI2 : ¬ ((q' : Int) + G.length + ks'.length) > left := by omega
      go_wp2_with fail
      go_loopw [8, 10] (fun nx j wj => ∃ s : Nat, s ≤ ks'.length ∧ j = .int .i64 s ∧ Hid (OwnL 6 wo.heap.size 117 (RX0 n w) wj nx (G ++ ks'.take s)) ∧ Hid (Fut wo wj)) (fun _ j _ => ks'.length - (intOf j).toNat)
      case atStart => exact ⟨0, Nat.zero_le _, rfl, Lib.hid (by rw [List.take_zero, List.append_nil]; exact HN.out), hFi⟩
      case round =>
       obtain ⟨s, hs, rfl, hM, hFj⟩ := hrel
       have y5j := hFj.out.cell y5
       by_cases hsl : s < ks'.length
       ·have hkj : SlRep 6 1759218604441 (RX0 m' w) wr (.slice A' ks'.length c') ks' := (hks'.imp fun cs x h => (h : RX0 m' w w cs x)).fut RX0.stays (hF.out.trans hFj.out)
        obtain ⟨b2, off2, m2, op2, t2, ks2, A2, c2, rfl, hm2, hz2, z0, z1, z2, z3, z4, z5, _, _, _, hre⟩ := ex_at hkj hsl
        have hts : ks'.take (s + 1) = ks'.take s ++ [ks'[s]] := List.take_succ_eq_append_getElem hsl
        have hre' := RE.mono hmn.out hre
        clear hre hkj hm2 hz2
        generalize ks'[s] = z at *
        have hsI : (s : Int) < ks'.length := by omega
        have e2 : (0 : Int) ≤ s ∧ (s : Int) < ks'.length := by omega
        have hln : (G ++ ks'.take s).length = G.length + s := by rw [List.length_append, List.length_take]; omega
        have hlh := Lib.hid hln
        replace hts := Lib.hid (show G ++ ks'.take (s + 1) = (G ++ ks'.take s) ++ [z] by rw [hts, List.append_assoc])
        have hbj := hFj.out.size
        generalize G ++ ks'.take s = G2 at *
        clear hln
        go_wp2_with (first | (at_builtin; refine wpList_append_LB (R := RX0 n w) (B := wo.heap.size) (M := 1) (xs := G2) (ys := [z]) (e := 117) (by go_simp) _ _ 115 rfl Tryz.underlying115 (.agg #[.int .i8 0, .string ⟨#[]⟩, .int .i8 0, .int .i64 0, .string ⟨#[]⟩, .slice none 0 0]) 80 infoEx rfl (by decide) RX0.one RX0.keeps rfl rfl (hM.out.fut RX0.stays (Fut.alloc _ _)) (exOne hre' _) ?l3 ?l4 ?b3 ?k3))
        case l3 => have := hlh.out; simp [maxLen]; omega
        case l4 => have := hlh.out; first | omega | (simp; omega)
        case b3 => first | omega | (simp; omega)
        case k3 =>
        intro v' w' o' g' sn'
        have F' := Lib.hid (Fut.grown (hFj.out.trans (Fut.alloc _ _)) g' (fun y hy => (hM.out.block y hy).1))
        have o5 := Lib.hid o'
        clear o' g' sn'
        go_wp2
        go_roundw
        case rel => exact ⟨s + 1, by omega, by go_num, by rw [hts.out]; exact o5, F'⟩
        case measure => simp [intOf] <;> omega
       ·obtain rfl : s = ks'.length := by omega
        rw [List.take_length] at hM
        go_wp2
        go_roundw
        case rel => exact ⟨k + 1, by omega, by go_num, by rw [hft.out, List.length_append]; omega, by rw [hft.out]; exact hM, hFj⟩
        case measure => simp [intOf] <;> omega
    ·obtain rfl : k = L.length := by omega
     rw [List.take_length] at HN hfl
     have hb9 := hF.out.size
     have HN' := Lib.hid (HN.out.base hb9)
     have F9 := Lib.hid (hF.out.trans hFi.out)
     rw [List.take_length]
     generalize L.flatMap Ex.kids = G at *
     clear HN
     go_wp2
     go_roundw
     case rel => exact ⟨q', d + 1, G, hq'l, by omega, by go_num, by go_num, by omega, hsz', hdp', HN', F9⟩
     case measure => have := hqlt.out; simp [intOf] <;> omega
end Go.Proofs.YtdjffkkbjbiihaaGreatDoor
namespace Go.Proofs.YtdjffkkbjbiihaaGreatDoor
open Go.RowKit Go.WideMaps
end Go.Proofs.YtdjffkkbjbiihaaGreatDoor
namespace Go.Proofs.YtdjffkkbjbiihaaGreatDoor
open Go.RowKit
def sink1B (ops : Array Oper) (n : Nat) : Bool :=
 (List.range n).all fun i => decide (i = 0) || (List.range (n + 1)).any fun j => decide (i < j) && Region.waitsFor .any ops j i
def sinkB0 (ops : Array Oper) (n : Nat) : Bool := decide (n = ops.size) || (sink1B ops n && Region.chainB .any ops n)
def tailB0 (ops : Array Oper) (n : Nat) : Bool := sinkB0 ops n && Region.seqB .any ops (ops.size - n) n (headDone n ops.size)
def takeB (ops : Array Oper) : Bool := match ops[0]? with
 | none => false
 | some o => (match o.guard with | none => true | some _ => false) && (match o.op with | .move (.tmp _) => true | _ => false) && Region.free .any ops (Array.replicate ops.size false) 0 && (Region.ready .any ops (Array.replicate ops.size false)).contains 0
theorem tail_waits0 {ops : Array Oper} {n : Nat} {listed : Array Bool} (hs : sink1B ops n = true) (hc : Region.chainB .any ops n = true) (hn : n < ops.size) (inv : HeadInv .any ops n listed) :
  ∀ (d i : Nat), n - i = d → i < n → i ≠ 0 → listed.getD i true = false → ∀ t, n ≤ t → t ∉ Region.ready .any ops listed := by
 intro d
 induction d using Nat.strongRecOn with
 | _ d ih =>
  intro i hd hi hi0 hun t ht hr
  obtain ⟨_, ot, hot, hall⟩ := mem_ready.1 hr
  have htlt : t < ops.size := (Array.getElem?_eq_some_iff.1 hot).1
  by_cases htn : t = n
  ·subst htn
   have h1 := List.all_eq_true.1 hs i (List.mem_range.2 hi)
   simp only [hi0, decide_false, Bool.false_or] at h1
   obtain ⟨j, hj, hj2⟩ := List.any_eq_true.1 h1
   simp only [Bool.and_eq_true, decide_eq_true_eq] at hj2
   obtain ⟨oj, hoj, e, he, hb, hon⟩ := Region.waitsFor_spec hj2.2
   have hjle : j ≤ t := by have := List.mem_range.1 hj; omega
   by_cases hjt : j = t
   ·subst hjt
    have : oj = ot := Option.some.inj (hoj.symm.trans hot)
    subst this
    have h2 := hall e he hb
    rw [hon, getD_both hun] at h2
    cases h2
   ·cases hl : listed.getD j false with
    | true =>
     have h2 := inv.closed j oj hoj hl e he hb
     rw [hon, getD_both hun] at h2
     cases h2
    | false =>
     have hjs : j < listed.size := by rw [inv.size]; omega
     exact ih (t - j) (by omega) j rfl (by omega) (by omega) (getD_in hjs hl) t (Nat.le_refl _) hr
  ·have h1 := List.all_eq_true.1 hc t (List.mem_range.2 htlt)
   simp only [Bool.or_eq_true, decide_eq_true_eq] at h1
   rcases h1 with h1 | h1
   ·omega
   ·obtain ⟨o', ho', e, he, hb, hon⟩ := Region.waitsFor_spec h1
    have : o' = ot := Option.some.inj (ho'.symm.trans hot)
    subst this
    have h2 := hall e he hb
    rw [hon, getD_both (inv.tail (t - 1) (by omega) (by omega))] at h2
    cases h2
theorem wp_region_graph0 {P : Program} {id : Nat} {Q : Exit → Act → World → Prop} {a0 : Act} {w : World} {l : List Oper} (n : Nat) (hm : P.follows .mixedOrders = true)
  (hB : (graphB l.toArray n && tailB0 l.toArray n) = true) (ht0 : takeB l.toArray = true) (hn0 : 0 < n) (hQ : ∀ c v w, ∀ a : Act, ∀ o, l[0]? = some o → Q (.panic c) (a.put o.dst v) w → Q (.panic c) a w) (hsz : ((List.range n).all fun k => match dstAt l.toArray k with | some d => decide (d < a0.tmps.size) | none => true) = true)
  (h : Obl P l.toArray w.drew a0 (wpList P l.toArray Q (l.drop n)) (l.take n) []) : (Code.region id l.toArray true).wp P Q a0 w := by
 simp only [Bool.and_eq_true, tailB0] at hB
 obtain ⟨hG, hS, hseq⟩ := hB
 obtain ⟨hsel, hns, hg⟩ := graphB_spec hG
 have hnl : n ≤ l.length := by simpa using hns
 have hbd : ∀ k d, dstAt l.toArray k = some d → k < n → d < a0.tmps.size := fun k d hd hk => by
  have := List.all_eq_true.1 hsz k (List.mem_range.2 hk)
  simpa [hd] using this
 obtain ⟨full, hfl, _, hob, hfin⟩ := Obl_split _ _ h
 simp only [List.length_nil, Nat.zero_add] at hfl hob
 have htl : (l.take n).length = n := by simp; omega
 rw [htl] at hfl
 -- the specifications
 obtain ⟨sp, hsp⟩ : ∃ sp : Nat → Sp, ∀ k, sp k = ((full[k]?).map (·.2)).getD (.det undef) := ⟨_, fun _ => rfl⟩
 have hfull : ∀ k, k < n → ∃ o, l[k]? = some o ∧ full[k]? = some (dstAt l.toArray k, sp k) ∧ (sp k).mono ∧
   ∀ w', Fut w.drew w' → lexAct o w' (fun a => givesG P l.toArray o a (sp k) w') 0 (full.take k) a0 := fun k hk => by
  have hlk : l[k]? = some (l[k]'(by omega)) := List.getElem?_eq_getElem (by omega)
  obtain ⟨s, hs, hmono, hlex⟩ := hob k _ (by rw [List.getElem?_take, if_pos hk]; exact hlk)
  have hspk : sp k = s := by rw [hsp, hs]; rfl
  refine ⟨_, hlk, ?_, by rw [hspk]; exact hmono, by rw [hspk]; exact hlex⟩
  rw [hs, hspk]
  simp [dstAt, hlk]
 refine wp_region_any hm ?_
 have main : ∀ (f : Nat) (listed : Array Bool) (a : Act) (w' : World) (vs : Nat → Value), GInv l.toArray n sp a0 w.drew vs listed a w' → listed.getD 0 false = true → unl listed n = f →
   wpAny P .any l.toArray Q (f + (l.length - n)) listed a w' := by
  intro f
  induction f with
  | zero =>
   intro listed a w' vs inv hl0 hf
   rw [Nat.zero_add]
   have hlisted : listed = headDone n l.length := by
    refine Array.ext_getElem? fun t => ?_
    by_cases ht : t < l.length
    ·have hts : t < listed.size := by rw [inv.lsize]; simpa using ht
     have h2 : (headDone n l.length)[t]? = some (decide (t < n)) := by simp [headDone, ht]
     rw [h2, Array.getElem?_eq_getElem hts]
     by_cases htn : t < n
     ·have := unl_zero n hf t htn
      simp [hts] at this
      simp [htn, this]
     ·have := inv.tail t (by omega) (by simpa using ht)
      simp [hts] at this
      simp [htn, this]
    ·rw [Array.getElem?_eq_none (by rw [inv.lsize]; simp; omega), Array.getElem?_eq_none (by simp [headDone]; omega)]
   have hlast := lexFin_inst (K := fun a => wpList P l.toArray Q (l.drop n) a w') vs full 0 a0 (hfin w' inv.fut) fun j d S hj => by
    rw [Nat.zero_add]
    have hjn : j < n := by rw [← hfl]; exact (List.getElem?_eq_some_iff.1 hj).1
    obtain ⟨_, _, h1, _, _⟩ := hfull j hjn
    rw [hj] at h1
    simp only [Option.some.injEq, Prod.mk.injEq] at h1
    have := inv.held j hjn (unl_zero n hf j hjn)
    rw [← h1.2] at this
    exact this
   have hact : a = putAll vs 0 full a0 := by
    refine act_ext (fun t => ?_) ?_
    ·by_cases hex : ∃ k, k < n ∧ dstAt l.toArray k = some t
     ·obtain ⟨k, hk, hkd⟩ := hex
      obtain ⟨_, _, h1, _, _⟩ := hfull k hk
      rw [hkd] at h1
      rw [inv.slot k t hk (unl_zero n hf k hk) hkd, putAll_at vs t full 0 a0 k (sp k) (hbd k t hkd hk) h1, Nat.zero_add]
      ·have h2 := inv.held k hk (unl_zero n hf k hk)
       cases hs : sp k with
       | det c => rw [hs] at h2; simp only [Sp.holds] at h2; rw [h2]; rfl
       | rel S => rfl
      ·intro j d s' hj hd
       have hjn : j < n := by rw [← hfl]; exact (List.getElem?_eq_some_iff.1 hj).1
       obtain ⟨_, _, h3, _, _⟩ := hfull j hjn
       rw [hj] at h3
       simp only [Option.some.injEq, Prod.mk.injEq] at h3
       have hjd : dstAt l.toArray j = some t := h3.1.symm.trans hd
       rcases Nat.lt_trichotomy j k with h' | h' | h'
       ·obtain ⟨ok, hok, _, hd2, _⟩ := hg k hk
        exact absurd hjd (hd2 t (by simpa [dstAt, hok] using hkd) j h')
       ·exact h'
       ·obtain ⟨oj, hoj, _, hd2, _⟩ := hg j hjn
        exact absurd hkd (hd2 t (by simpa [dstAt, hoj] using hjd) k h')
     ·rw [inv.free t fun k hk _ hd => hex ⟨k, hk, hd⟩, putAll_other]
      intro d s hmem hd
      obtain ⟨j, hj⟩ := List.getElem?_of_mem hmem
      have hjn : j < n := by rw [← hfl]; exact (List.getElem?_eq_some_iff.1 hj).1
      obtain ⟨_, _, h3, _, _⟩ := hfull j hjn
      rw [hj] at h3
      simp only [Option.some.injEq, Prod.mk.injEq] at h3
      exact hex ⟨j, hjn, h3.1.symm.trans hd⟩
    ·rw [inv.defers]
     have : ∀ (acc : List (Option Tmp × Sp)) (k : Nat) (b : Act), (putAll vs k acc b).defers = b.defers := by
      intro acc
      induction acc with
      | nil => intro k b; rfl
      | cons x r ih =>
       intro k b
       obtain ⟨d, s⟩ := x
       cases s <;> simp only [putAll] <;> rw [ih, put_defers']
     rw [this]
   rw [← hact] at hlast
   have := wpAny_of_seq (md := .any) (P := P) (Q' := Q) (l.drop n) n listed a w' (fun j => by simp [List.getElem?_drop])
    (by rw [hlisted, List.length_drop]; simpa using hseq) hlast
   rwa [List.length_drop] at this
  | succ f ih =>
   intro listed a w' vs inv hl0 hf
   obtain ⟨i0, hi0, hi1, hi2⟩ := unl_some n (by rw [hf]; omega)
   have hils : ∀ i, i < n → i < listed.size := fun i hi => by rw [inv.lsize]; simp; omega
   have hready : i0 ∈ Region.ready .any l.toArray listed := by
    obtain ⟨o, ho, hedge, _⟩ := hg i0 hi0
    exact mem_ready.2 ⟨getD_in (hils i0 hi0) hi1, o, ho, fun e he hb => hi2 _ (hedge e he hb)⟩
   rw [show f + 1 + (l.length - n) = (f + (l.length - n)) + 1 by omega]
   refine ⟨fun h0 => (by rw [h0] at hready; cases hready), fun i hi => ?_⟩
   have hin : i < n := by
    rcases Nat.lt_or_ge i n with h' | h'
    ·exact h'
    ·exfalso
     have hisz : i < l.toArray.size := by
      obtain ⟨_, o, ho, _⟩ := mem_ready.1 hi
      exact (Array.getElem?_eq_some_iff.1 ho).1
     simp only [sinkB0, Bool.or_eq_true, decide_eq_true_eq, Bool.and_eq_true] at hS
     rcases hS with hS | ⟨hs, hc⟩
     ·omega
     ·exact tail_waits0 hs hc (by omega) ⟨inv.lsize, inv.closed, inv.tail⟩ _ i0 rfl hi0 (fun e => by rw [e, hl0] at hi1; cases hi1) (getD_in (hils i0 hi0) hi1) i h' hi
   refine inv.step (full := full) (Q := Q) hG hbd (fun k hk => (by obtain ⟨_, _, h1, _, _⟩ := hfull k hk; exact h1)) hfl (fun k hk => (by obtain ⟨_, _, _, h1, _⟩ := hfull k hk; exact h1))
    (fun o ho => (by
     obtain ⟨o', ho', _, _, h1⟩ := hfull i hin
     have : o = o' := Option.some.inj ((by simpa using ho.symm : some o = l[i]?).trans ho')
     subst this
     exact h1)) hi hin fun v a' w'' inv' => ih _ a' w'' _ inv' (by
     by_cases hi0' : i = 0
     ·subst hi0'; have := (mem_ready.1 hi).1; rw [getD_both this] at hl0; cases hl0
     ·rw [getD_set_ne false hi0']; exact hl0) ?_
   have hun := getD_both (mem_ready.1 hi).1
   have := unl_set hun (hils i hin) n hin
   omega
 obtain ⟨o0, hl0, h1, _, hlex0⟩ := hfull 0 hn0
 have hi0 : l.toArray[0]? = some o0 := by simpa using hl0
 unfold takeB at ht0
 rw [hi0] at ht0
 simp only [Bool.and_eq_true] at ht0
 obtain ⟨⟨⟨hgd, hmv⟩, hfree⟩, hrdy⟩ := ht0
 have hwant : Region.wanted o0 (yielded l.toArray a0.tmps) = true := by
  unfold Region.wanted
  cases hg' : o0.guard with
  | none => rfl
  | some x => rw [hg'] at hgd; cases hgd
 obtain ⟨y, hop⟩ : ∃ y, o0.op = .move (.tmp y) := by
  split at hmv
  ·rename_i y hop; exact ⟨y, hop⟩
  ·cases hmv
 have hexec : ∀ w', (execOp a0.eval o0).run P w' = .ok (.value (a0.eval (.tmp y))) w' := fun w' => by
  unfold execOp
  simp only [hop, Sem.run_pure]
 have hS0 : ∀ w', Fut w.drew w' → (sp 0).holds (a0.eval (.tmp y)) w' := fun w' hw' => by
  have h2 := hlex0 w' hw'
  simp only [List.take_zero, lexAct, givesG] at h2
  rw [if_pos hwant] at h2
  unfold gives at h2
  rw [hexec w'] at h2
  exact h2.2
 have hsz0 : l.toArray.size = (l.toArray.size - 1) + 1 := by
  have := (Array.getElem?_eq_some_iff.1 hi0).1
  omega
 have hd0 : dstAt l.toArray 0 = o0.dst := by unfold dstAt; rw [hi0]; rfl
 rw [hsz0]
 refine wpAny_take hi0 hsel (by rw [← hsz0]; exact hfree) (by rw [← hsz0]; exact hrdy) (fun c a w => hQ c _ w a o0 hl0) (.inl ⟨hwant, hexec⟩) ?_
 have hLs : 0 < (Array.replicate (l.toArray.size - 1 + 1) false).size := by simp
 have hcl : ∀ j, ((Array.replicate (l.toArray.size - 1 + 1) false).setIfInBounds 0 true).getD j false = true → j = 0 := fun j hj => by
  by_cases hj0 : j = 0
  ·exact hj0
  ·rw [getD_set_ne false (Ne.symm hj0), getD_replicate_false] at hj; cases hj
 have inv0 : GInv l.toArray n sp a0 w.drew (fun _ => a0.eval (.tmp y)) ((Array.replicate (l.toArray.size - 1 + 1) false).setIfInBounds 0 true) (a0.put o0.dst (a0.eval (.tmp y))) w.drew := by
  refine ⟨by rw [put_size], by rw [put_defers'], Fut.refl _, fun t ht => ?_, fun k hk hl => ?_, fun k d hk hl hd => ?_, by rw [Array.size_setIfInBounds, Array.size_replicate]; exact hsz0.symm, fun j oj hj hl e he hb => ?_, fun t ht ht' => ?_⟩
  ·rw [put_other _ _ _ _ (by rw [← hd0]; exact ht 0 hn0 (by simp))]
  ·rw [hcl k hl]; exact hS0 _ (Fut.refl _)
  ·have hk0 := hcl k hl
   subst hk0
   rw [hd0] at hd
   rw [hd]
   exact put_same _ _ _ (hbd 0 d (hd0.trans hd) hn0)
  ·have hj0 := hcl j hl
   subst hj0
   obtain ⟨o', ho', hedge, _⟩ := hg 0 hn0
   have : oj = o' := Option.some.inj (hj.symm.trans ho')
   subst this
   exact absurd (hedge e he hb) (by omega)
  ·rw [getD_set_ne true (by omega)]
   exact getD_in (by rw [Array.size_replicate, ← hsz0]; exact ht') (getD_replicate_false _ _)
 have hun : unl ((Array.replicate (l.toArray.size - 1 + 1) false).setIfInBounds 0 true) n + 1 = n := by
  rw [unl_set (getD_replicate_false _ _) (by simp) n hn0, unl_none]
 have := main (n - 1) _ _ _ _ inv0 (by simp) (by omega)
 rwa [show n - 1 + (l.length - n) = l.toArray.size - 1 by simp; omega] at this
theorem wp_graph0 {P : Program} {id : Nat} {Q : Exit → Act → World → Prop} {a0 : Act} {w : World} {l : List Oper} (n : Nat) (shape : List Sh) (hm : P.follows .mixedOrders = true)
  (hB : (graphB l.toArray n && tailB0 l.toArray n) = true) (ht0 : takeB l.toArray = true) (hn0 : 0 < n) (hQ : ∀ c v w, ∀ a : Act, ∀ o, l[0]? = some o → Q (.panic c) (a.put o.dst v) w → Q (.panic c) a w) (hsz : ((List.range n).all fun k => match dstAt l.toArray k with | some d => decide (d < a0.tmps.size) | none => true) = true)
  (h : Exs (fun sps => Run P l.toArray w.drew (wpList P l.toArray Q (l.drop n)) 0 (l.take n) sps a0 []) shape) : (Code.region id l.toArray true).wp P Q a0 w := by
 obtain ⟨sps, hs⟩ := Exs_some shape h
 exact wp_region_graph0 n hm hB ht0 hn0 hQ hsz (Obl_of_run _ sps [] fun _ => hs)
section
variable {α : Type} {sz B M : Nat} {e : TypeId} {R : World → List Value → α → Prop} {w w' : World} {v u : Value} {xs ys : List α}
theorem run_append_list_at {P : Program} (t ty : TypeId) (i : TypeInfo) (z : Value) (bytes : Nat) (ht : P.underlying t = some (.slice e)) (hi : P.info? e = some i) (hz : i.zero = some z) (hsize : i.size = sz) (hby : i.bytes = bytes) (hzs : z.cells.size = sz) (hsz : 0 < sz)
  (hR1 : ∀ w cs x, R w cs x → ∀ u ∈ cs, u.oneCell' = true) (hRk : ∀ w' cs (x : α), R w cs x → w.grownBy w' v.ownBlock → R w' cs x)
  (h : OwnL sz B e R w v xs) (hu : SlRep sz M R w u ys) (h63 : xs.length + ys.length ≤ maxLen) (hbytes : (xs.length + ys.length) * bytes ≤ 140737488355328) (hbase : B ≤ w.heap.size) :
  ∃ v' w', (Builtin.append_ #[t, t] ty #[v, u]).run P w = .ok v' w' ∧ OwnL sz B e R w' v' (xs ++ ys) ∧ w.grownBy w' v.ownBlock ∧ (v'.ownBlock = v.ownBlock ∨ v'.ownBlock = some w.heap.size) := by
 have h0 := h
 obtain ⟨css, h1, h2, h3⟩ := h
 obtain ⟨A, cap, rfl, hl, hm, hx⟩ := hu
 have hgrow : ∀ w', w.grownBy w' v.ownBlock → ∀ (i : Nat) (cs : List Value) (x : α), css[i]? = some cs → xs[i]? = some x → cs.length = sz ∧ R w' cs x := fun w' hg i cs x hi hx => ⟨(h2 i cs x hi hx).1, hRk _ _ _ (h2 i cs x hi hx).2 hg⟩
 cases A with
 | none =>
  have hy : ys = [] := by
   cases ys with
   | nil => rfl
   | cons y r => obtain ⟨_, _, _, hA, _⟩ := hx 0 y rfl; cases hA
  subst hy
  obtain ⟨A', cap', hv, hl', _⟩ := h0.rep.form
  subst hv
  exact ⟨_, w, run_append_none t ty i ht hi A' _ cap' cap hl' w, by rw [List.append_nil]; exact h0, World.grownBy.refl w _, .inl rfl⟩
 | some a =>
  obtain ⟨news, hnl, hnews⟩ := exists_list (p := fun k (cs : List Value) => ∃ y, ys[k]? = some y ∧ cs.length = sz ∧ R w cs y ∧ ∀ j c, cs[j]? = some c → w.cell? (a.add (k * sz + j)) = some c) ys.length fun k hk => by
   obtain ⟨b, off, cs, hA, b1, b2, b3⟩ := hx k _ (List.getElem?_eq_getElem hk)
   injection hA with hA
   subst hA
   refine ⟨cs, _, List.getElem?_eq_getElem hk, b1, b3, fun j c hj => ?_⟩
   rw [← b2 j c hj]
   congr 1
   unfold Addr.add
   by_cases h' : k * sz + j = 0 <;> first | (simp [h']; done) | (simp [h']; omega)
  have hs : ∀ (i : Nat) (cs : List Value), news[i]? = some cs → cs.length = sz := fun i cs hi => by obtain ⟨y, _, b1, _⟩ := hnews i cs hi; exact b1
  have hcells : ∀ j u, news.flatten[j]? = some u → w.cell? (a.add j) = some u := fun j u hj => by
   have hjl : j < news.length * sz := by
    have := (List.getElem?_eq_some_iff.1 hj).1
    rwa [flatten_len hs] at this
   have hk : j / sz < news.length := Nat.div_lt_of_lt_mul (by rw [Nat.mul_comm]; exact hjl)
   obtain ⟨y, _, b1, _, b2⟩ := hnews (j / sz) _ (List.getElem?_eq_getElem hk)
   have hr : j % sz < (news[j / sz]).length := by rw [b1]; exact Nat.mod_lt _ hsz
   have e1 := flatten_at hs (j / sz) (j % sz) _ _ (List.getElem?_eq_getElem hk) (List.getElem?_eq_getElem hr)
   have e2 := b2 (j % sz) _ (List.getElem?_eq_getElem hr)
   rw [show j / sz * sz + j % sz = j by rw [Nat.mul_comm]; exact Nat.div_add_mod j sz] at e1 e2
   rw [hj] at e1
   rw [e2, ← e1]
  have hone : ∀ u ∈ news.flatten, u.oneCell' = true := fun u hu => by
   obtain ⟨cs, hc, hu⟩ := List.mem_flatten.1 hu
   obtain ⟨k, hk⟩ := List.getElem?_of_mem hc
   obtain ⟨y, _, _, b3, _⟩ := hnews k cs hk
   exact hR1 _ _ _ b3 u hu
  obtain ⟨v', w', r1, r2, r3, _, r5⟩ := run_append_own_at (P := P) w B t ty e i z sz bytes ht hi hz hsize hby hzs hsz v xs.length css.flatten h3 a ys.length cap news.flatten (by rw [flatten_len hs, hnl]) hcells hone h63 hbytes hbase
  refine ⟨v', w', r1, ⟨css ++ news, by simp [h1, hnl], fun k cs x hk hx' => ?_, by rw [List.flatten_append, List.length_append]; exact r2⟩, r3, r5⟩
  rcases Nat.lt_or_ge k css.length with h' | h'
  ·rw [List.getElem?_append_left h'] at hk
   rw [List.getElem?_append_left (by omega)] at hx'
   exact hgrow w' r3 k cs x hk hx'
  ·rw [List.getElem?_append_right h'] at hk
   rw [List.getElem?_append_right (by omega)] at hx'
   obtain ⟨y, e1, b1, b3, _⟩ := hnews _ _ hk
   rw [h1, hx'] at e1
   obtain rfl := Option.some.inj e1
   exact ⟨b1, hRk _ _ _ b3 r3⟩
def Apart (v u : Value) : Prop := ∀ k, v.ownBlock = some k → u.ownBlock ≠ some k
theorem Apart.symm (h : Apart v u) : Apart u v := fun k h1 h2 => h k h2 h1
theorem Apart.nil : Apart v (.slice none 0 0) := fun k _ h => by cases h
theorem OwnL.apart {row : Option Nat} (h : OwnL sz B e R w v xs) (hR : ∀ cs x, R w cs x → R w' cs x) (hg : w.grownBy w' row) (hne : ∀ k, row = some k → v.ownBlock ≠ some k) : OwnL sz B e R w' v xs := by
 obtain ⟨css, h1, h2, h3⟩ := h
 refine ⟨css, h1, fun i cs x hi hx => ⟨(h2 i cs x hi hx).1, hR _ _ (h2 i cs x hi hx).2⟩, h3.kept hg ?_⟩
 cases hv : v.ownBlock with
 | none => exact .inl rfl
 | some k => exact .inr fun hr => hne k hr.symm hv
theorem Apart.grow {v' : Value} {n : Nat} (h : Apart v u) (hat : v'.ownBlock = v.ownBlock ∨ v'.ownBlock = some n) (hu : ∀ k, u.ownBlock = some k → k < n) : Apart v' u := fun k h1 h2 => by
 rcases hat with h3 | h3
 ·exact h k (h3 ▸ h1) h2
 ·rw [h3] at h1
  injection h1 with h1
  have := hu k h2
  omega
end
end Go.Proofs.YtdjffkkbjbiihaaGreatDoor
namespace Go.Proofs.YtdjffkkbjbiihaaGreatDoor
open Go.RowKit Go.WideMaps
section
variable {P : Program} {t k e : TypeId} {w : World} {o : Oper} {a : Act} {x : Rw}
end
theorem set_blk {w : World} {g i : Nat} {cs : Array Value} {t : TypeId} {fr : Nat × Nat} {v : Value} (h : w.heap[g]? = some (.cells cs t fr)) : (w.setCell ⟨g, i, none⟩ v).heap[g]? = some (.cells (cs.setIfInBounds i v) t fr) := by
 simp [World.setCell, Array.getElem?_modify, h]
abbrev Rws : World → Value → List Rw → Prop := SlRep 24 9223372036854775807 RR
def RRs (w : World) (cs : List Value) (xs : List Rw) : Prop := ∃ u, cs = [u] ∧ Rws w u xs
theorem RRs.stays : Stays RRs := fun _ _ _ _ hf ⟨v, h1, h2⟩ => ⟨v, h1, h2.fut RR.stays hf⟩
theorem wpList_store_1 {P : Program} {t : TypeId} {ops : Array Oper} {rest : List Oper} {o : Oper} {a : Act} {Q : Exit → Act → World → Prop} {w w' : World} {g i : Nat} {v u : Value} (hgd : Region.wanted o (yielded ops a.tmps) = true) (x y : Operand)
  (ho : o.op = .store t x y) (hx : a.eval x = .pointer (some ⟨g, i, none⟩)) (hy : a.eval y = v) (hi : (P.info? t).map (·.size) = some 1) (h1 : v.oneCell' = true) (hc : w.cell? ⟨g, i, none⟩ = some u) (hz : w.frozen? ⟨g, i, none⟩ = false)
  (hw : w.setCell ⟨g, i, none⟩ v = w') (h : wpList P ops Q rest (a.put o.dst undef) w') : wpList P ops Q (o :: rest) a w := by
 subst hw
 refine wpList_of_skip hgd ?_ h
 have hcl : v.cells = #[v] := by
  unfold Value.cells
  unfold Value.oneCell' at h1
  split at h1 <;> simp_all
 have h2 := run_storeCells_cells (P := P) g i [v] 0 w (fun j hj => by
  simp at hj; subst hj; show (w.cell? ⟨g, i, none⟩).isSome = true; rw [hc]; rfl) (fun j hj => by simp at hj; subst hj; exact hz) (fun u hu => by simp at hu; subst hu; exact h1)
 simp only [Nat.add_zero, World.setCells] at h2
 unfold execOp
 cases hq : P.info? t with
 | none => simp [hq] at hi
 | some ii =>
  have hs : ii.size = 1 := by simpa [hq] using hi
  simp [ho, hx, hy, Instr.storeAt, Instr.sureAddr, storeVar, sizeOf, typeInfo, hq, hs, hcl, h2]
end Go.Proofs.YtdjffkkbjbiihaaGreatDoor
namespace Go.Proofs.YtdjffkkbjbiihaaGreatDoor
open Go.RowKit
def Ex.op : Ex → Int
 | .mk op _ _ => op
def Ex.t : Ex → Tm
 | .mk _ t _ => t
def Ex.cs (x : Ex) (kv : Value) : List Value := [.int .i8 x.op, .string x.t.v, .int .i8 x.t.x.k, .int .i64 x.t.x.n, .string x.t.x.s, kv]
theorem ex_cs {w : World} {cs : List Value} {x : Ex} (h : RX w cs x) : ∃ n A l c, cs = x.cs (.slice A l c) ∧ RE n w (x.cs (.slice A l c)) x := by
 obtain ⟨n, h⟩ := h
 obtain ⟨m, op, t, ks, A, c, hn, rfl, rfl, h1, h2, h3⟩ := ex_form h
 exact ⟨n, A, ks.length, c, rfl, h⟩
def Lt.cs (x : Lt) (av kl kd : Value) : List Value := [.int .i8 x.k, .string x.p, av, .int .i8 x.r, .int .i8 x.l.op, .string x.l.t.v, .int .i8 x.l.t.x.k, .int .i64 x.l.t.x.n, .string x.l.t.x.s, kl, .int .i8 x.d.op, .string x.d.t.v, .int .i8 x.d.t.x.k, .int .i64 x.d.t.x.n, .string x.d.t.x.s, kd]
structure LtC (w : World) (x : Lt) (av kl kd : Value) : Prop where
 args : SlRep 4 2932031007402 RTm w av x.a
 left : ∃ n, RE n w (x.l.cs kl) x.l
 right : ∃ n, RE n w (x.d.cs kd) x.d
 kw : (Lit.int .i8 x.k).wf = true
 rw' : (Lit.int .i8 x.r).wf = true
 pw : x.p.size ≤ 140737488351232
theorem lt_cs {w : World} {cs : List Value} {x : Lt} (h : RLt w cs x) : ∃ A c Al l cl Ad d cd, cs = x.cs (.slice A x.a.length c) (.slice Al l cl) (.slice Ad d cd) ∧ x.a.length ≤ c ∧ c ≤ 2932031007402 ∧ LtC w x (.slice A x.a.length c) (.slice Al l cl) (.slice Ad d cd) := by
 obtain ⟨av, cl, cd, h1, _, _, h4, h5, h6, h7, h8, h9⟩ := h
 obtain ⟨n1, Al, l1, c1, rfl, e1⟩ := ex_cs h8
 obtain ⟨n2, Ad, l2, c2, rfl, e2⟩ := ex_cs h9
 obtain ⟨A, c, rfl, g1, g2⟩ := h7.form
 exact ⟨A, c, Al, l1, c1, Ad, l2, c2, h1, g1, g2, h7, ⟨n1, e1⟩, ⟨n2, e2⟩, h4, h5, h6⟩
theorem LtC.fut {w w' : World} {x : Lt} {av kl kd : Value} (h : LtC w x av kl kd) (hf : Fut w w') : LtC w' x av kl kd :=
 ⟨h.args.fut RTm.stays hf, by obtain ⟨n, e⟩ := h.left; exact ⟨n, RE.stays n _ _ _ _ hf e⟩, by obtain ⟨n, e⟩ := h.right; exact ⟨n, RE.stays n _ _ _ _ hf e⟩, h.kw, h.rw', h.pw⟩
def Lt.parts (x : Lt) : Nat := 1 + x.a.length + x.l.size + x.d.size
def Lt.flat (x : Lt) : Prop := x.l.depth ≤ 65537 ∧ x.d.depth ≤ 65537
def Ru.parts (r : Ru) : Nat := 1 + r.h.length + (r.b.map Lt.parts).sum
def Ru.flat (r : Ru) : Prop := ∀ x ∈ r.b, x.flat
set_option maxHeartbeats 2000000 in
set_option maxRecDepth 100000 in
theorem literalParts_any (x : Lt) (A : Option Addr) (c : Nat) (kl kd : Value) (left : Nat) (w : World) (h : LtC w x (.slice A x.a.length c) kl kd) (hc : c ≤ 2932031007402) (hcl : x.a.length ≤ c) (hleft : left ≤ 1048576) :
  Calls Tryz.prog 74 #[.agg (x.cs (.slice A x.a.length c) kl kd).toArray, .int .i64 left] w fun e w' => ∃ r : Nat, e = .returned (.int .i64 r) ∧ (r = left + 1 ∨ (r = x.parts ∧ r ≤ left ∧ x.flat)) ∧ Fut w w' := by
 have HL := Lib.hid h
 have hP := Lib.hid (rfl : x.parts = 1 + x.a.length + x.l.size + x.d.size)
 have hFl := Lib.hid (Iff.rfl : x.flat ↔ x.l.depth ≤ 65537 ∧ x.d.depth ≤ 65537)
 have HE1 := Lib.hid (fun (W : World) (hW : Fut w W) (lf : Nat) (hlf : lf ≤ 1048576) => by obtain ⟨n, e⟩ := (h.fut hW).left; exact exprParts_any x.l _ _ kl lf W e hlf)
 have HE2 := Lib.hid (fun (W : World) (hW : Fut w W) (lf : Nat) (hlf : lf ≤ 1048576) => by obtain ⟨n, e⟩ := (h.fut hW).right; exact exprParts_any x.d _ _ kd lf W e hlf)
 clear h
 obtain ⟨xk, xp, xa, xr, xl, xd⟩ := x
 unfold Lt.cs
 go_enter Tryz.func74, Tryz.ntmps74
 go_wp2_with fail
 have hb := heap_alloc_new w (.cells #[.int .i8 xk, .string xp, .slice A xa.length c, .int .i8 xr, .int .i8 xl.op, .string xl.t.v, .int .i8 xl.t.x.k, .int .i64 xl.t.x.n, .string xl.t.x.s, kl, .int .i8 xd.op, .string xd.t.v, .int .i8 xd.t.x.k, .int .i64 xd.t.x.n, .string xd.t.x.s, kd] 119)
 have hF := Fut.alloc w (.cells #[.int .i8 xk, .string xp, .slice A xa.length c, .int .i8 xr, .int .i8 xl.op, .string xl.t.v, .int .i8 xl.t.x.k, .int .i64 xl.t.x.n, .string xl.t.x.s, kl, .int .i8 xd.op, .string xd.t.v, .int .i8 xd.t.x.k, .int .i64 xd.t.x.n, .string xd.t.x.s, kd] 119)
 obtain ⟨w1, hw1⟩ : ∃ W, w.alloc (.cells #[.int .i8 xk, .string xp, .slice A xa.length c, .int .i8 xr, .int .i8 xl.op, .string xl.t.v, .int .i8 xl.t.x.k, .int .i64 xl.t.x.n, .string xl.t.x.s, kl, .int .i8 xd.op, .string xd.t.v, .int .i8 xd.t.x.k, .int .i64 xd.t.x.n, .string xd.t.x.s, kd] 119) = W := ⟨_, rfl⟩
 rw [hw1] at hb hF ⊢
 clear hw1
 have FB := Lib.hid hF
 clear hF
 have y2 := cell_at hb 2 (.slice A xa.length c) rfl
 have y4 := cell_at hb 4 (.int .i8 xl.op) rfl
 have y5 := cell_at hb 5 (.string xl.t.v) rfl
 have y6 := cell_at hb 6 (.int .i8 xl.t.x.k) rfl
 have y7 := cell_at hb 7 (.int .i64 xl.t.x.n) rfl
 have y8 := cell_at hb 8 (.string xl.t.x.s) rfl
 have y9 := cell_at hb 9 kl rfl
 have z0 := cell_at hb 10 (.int .i8 xd.op) rfl
 have z1 := cell_at hb 11 (.string xd.t.v) rfl
 have z2 := cell_at hb 12 (.int .i8 xd.t.x.k) rfl
 have z3 := cell_at hb 13 (.int .i64 xd.t.x.n) rfl
 have z4 := cell_at hb 14 (.string xd.t.x.s) rfl
 have z5 := cell_at hb 15 kd rfl
 clear hb
 replace hcl : xa.length ≤ c := hcl
 have hwa : IntKind.i64.wrap (1 + (xa.length : Int)) = ((1 + xa.length : Nat) : Int) := by rw [IntKind.wrap_i64]; omega
 refine wp_graph 9 [.d, .d, .d, .d, .d, .d, .d, .d, .r (fun v w' => ∃ r : Nat, v = .int .i64 r ∧ (r = left + 1 ∨ (r = xl.size ∧ r ≤ left ∧ xl.depth ≤ 65537)))] (by kernel_rfl) (by kernel_rfl) (by kernel_rfl) ?_
 simp only [takS, Exs]
 iterate 8 apply Exists.intro
 apply Run.valG (wanted_none rfl _)
 ·intro w1 h1 hk
  have q2 := h1.cell y2; have q4 := h1.cell y4; have q5 := h1.cell y5; have q6 := h1.cell y6; have q7 := h1.cell y7; have q8 := h1.cell y8; have q9 := h1.cell y9; have hg := (Fut.drew _).trans h1
  have hcw := fun b o => Below.cell (p := ⟨b, o, none⟩) h1
  go_simp; rfl
 simp only [actS]
 apply Run.valG (wanted_none rfl _)
 ·intro w1 h1 hk
  have q2 := h1.cell y2; have q4 := h1.cell y4; have q5 := h1.cell y5; have q6 := h1.cell y6; have q7 := h1.cell y7; have q8 := h1.cell y8; have q9 := h1.cell y9; have hg := (Fut.drew _).trans h1
  have hcw := fun b o => Below.cell (p := ⟨b, o, none⟩) h1
  go_simp; rfl
 simp only [actS]
 apply Run.valG (wanted_none rfl _)
 ·intro w1 h1 hk
  have q2 := h1.cell y2; have q4 := h1.cell y4; have q5 := h1.cell y5; have q6 := h1.cell y6; have q7 := h1.cell y7; have q8 := h1.cell y8; have q9 := h1.cell y9; have hg := (Fut.drew _).trans h1
  have hcw := fun b o => Below.cell (p := ⟨b, o, none⟩) h1
  go_simp; rfl
 simp only [actS]
 apply Run.valG (wanted_none rfl _)
 ·intro w1 h1 hk
  have q2 := h1.cell y2; have q4 := h1.cell y4; have q5 := h1.cell y5; have q6 := h1.cell y6; have q7 := h1.cell y7; have q8 := h1.cell y8; have q9 := h1.cell y9; have hg := (Fut.drew _).trans h1
  have hcw := fun b o => Below.cell (p := ⟨b, o, none⟩) h1
  go_simp; rfl
 simp only [actS]
 apply Run.valG (wanted_none rfl _)
 ·intro w1 h1 hk
  have q2 := h1.cell y2; have q4 := h1.cell y4; have q5 := h1.cell y5; have q6 := h1.cell y6; have q7 := h1.cell y7; have q8 := h1.cell y8; have q9 := h1.cell y9; have hg := (Fut.drew _).trans h1
  have hcw := fun b o => Below.cell (p := ⟨b, o, none⟩) h1
  go_simp; rfl
 simp only [actS]
 apply Run.valG (wanted_none rfl _)
 ·intro w1 h1 hk
  have q2 := h1.cell y2; have q4 := h1.cell y4; have q5 := h1.cell y5; have q6 := h1.cell y6; have q7 := h1.cell y7; have q8 := h1.cell y8; have q9 := h1.cell y9; have hg := (Fut.drew _).trans h1
  have hcw := fun b o => Below.cell (p := ⟨b, o, none⟩) h1
  go_simp; rfl
 simp only [actS]
 apply Run.valG (wanted_none rfl _)
 ·intro w1 h1 hk
  have q2 := h1.cell y2; have q4 := h1.cell y4; have q5 := h1.cell y5; have q6 := h1.cell y6; have q7 := h1.cell y7; have q8 := h1.cell y8; have q9 := h1.cell y9; have hg := (Fut.drew _).trans h1
  have hcw := fun b o => Below.cell (p := ⟨b, o, none⟩) h1
  go_simp; rfl
 simp only [actS]
 apply Run.valG (wanted_none rfl _)
 ·intro w1 h1 hk
  have q2 := h1.cell y2; have q4 := h1.cell y4; have q5 := h1.cell y5; have q6 := h1.cell y6; have q7 := h1.cell y7; have q8 := h1.cell y8; have q9 := h1.cell y9; have hg := (Fut.drew _).trans h1
  have hcw := fun b o => Below.cell (p := ⟨b, o, none⟩) h1
  go_simp; rfl
 simp only [actS]
 apply Run.callR (wanted_none rfl _) (by intro v w w' hf hs; exact hs) (fun _ _ => by go_simp; exact ⟨rfl, rfl⟩)
 ·intro w1 h1 hk
  have q2 := h1.cell y2; have q4 := h1.cell y4; have q5 := h1.cell y5; have q6 := h1.cell y6; have q7 := h1.cell y7; have q8 := h1.cell y8; have q9 := h1.cell y9; have hg := (Fut.drew _).trans h1
  refine (HE1.out _ (FB.out.trans hg) left hleft).mono ?_; rintro e w' ⟨r, rfl, hr, hf⟩; exact ⟨_, rfl, hf, r, rfl, hr⟩
 intro v8
 simp only [actS]
 apply Run.done
 intro w2 h2 hk
 obtain ⟨f8, _⟩ := hk
 obtain ⟨r, rfl, hr⟩ := f8
 have F2 := (Fut.drew _).trans h2
 have FW := Lib.hid (FB.out.trans F2)
 have x0 := F2.cell z0
 have x1 := F2.cell z1
 have x2 := F2.cell z2
 have x3 := F2.cell z3
 have x4 := F2.cell z4
 have x5 := F2.cell z5
 clear y2 y4 y5 y6 y7 y8 y9 z0 z1 z2 z3 z4 z5 h2 F2
 have hrl : r ≤ left + 1 := by rcases hr with h | h <;> omega
 have hwb : IntKind.i64.wrap (1 + (xa.length : Int) + r) = ((1 + xa.length + r : Nat) : Int) := by rw [IntKind.wrap_i64]; omega
 have hlw : IntKind.i64.wrap ((left : Int) + 1) = ((left + 1 : Nat) : Int) := by rw [IntKind.wrap_i64]; omega
 by_cases hov : 1 + xa.length + r > left
 ·have hovI : (1 + (xa.length : Int) + r) > left := by omega
  go_wp2
  go_ret
  exact ⟨left + 1, by first | rfl | simp, .inl rfl, FW.out⟩
 ·have hovI : ¬ (1 + (xa.length : Int) + r) > left := by omega
  have hr' := Lib.hid (hr.resolve_left (by omega))
  replace hr := Lib.hid hr
  have hcv : ((left : Int) - (1 + (xa.length : Int) + r)) = (((left - (1 + xa.length + r)) : Nat) : Int) := by omega
  have hsub : IntKind.i64.wrap ((left : Int) - (1 + (xa.length : Int) + r)) = ((left - (1 + xa.length + r) : Nat) : Int) := by rw [IntKind.wrap_i64]; omega
  replace hcv := Lib.hid hcv
  go_wp2_with fail
  try rw [hcv.out]
  refine (HE2.out _ FW.out (left - (1 + xa.length + r)) (by omega)).mono ?_
  rintro e w3 ⟨r2, rfl, hr2, f3⟩
  have hr2l : r2 ≤ left - (1 + xa.length + r) + 1 := by rcases hr2 with h | h <;> omega
  have hwc : IntKind.i64.wrap (1 + (xa.length : Int) + r + r2) = ((1 + xa.length + r + r2 : Nat) : Int) := by rw [IntKind.wrap_i64]; omega
  have F3 := Lib.hid (FW.out.trans f3)
  have hres : Hid (1 + xa.length + r + r2 = left + 1 ∨ (1 + xa.length + r + r2 = 1 + xa.length + xl.size + xd.size ∧ 1 + xa.length + r + r2 ≤ left ∧ xl.depth ≤ 65537 ∧ xd.depth ≤ 65537)) := Lib.hid (by
   have h9 := hr'.out
   rcases hr2 with h | ⟨h3, h4, h5⟩
   ·left; omega
   ·right; exact ⟨by omega, by omega, h9.2.2, h5⟩)
  clear f3 hr hr' hr2
  go_wp2
  go_ret
  exact ⟨1 + xa.length + r + r2, by first | rfl | simp, hres.out, F3.out⟩
end Go.Proofs.YtdjffkkbjbiihaaGreatDoor
