/- DOther, DOtherW, TwRep, RTm, REx -/
import Derived.Test.YtgcgmbegkfaifaaGreatDoorC15
/- pedigreelaw09.atom, other. -/
namespace Go.Proofs.YtgcgmbegkfaifaaGreatDoor
open Go.RowKit Go.WideMaps
set_option linter.unusedSimpArgs false
set_option linter.unusedVariables false

def exZ : Ex := .mk 0 ⟨⟨#[]⟩, ⟨0, 0, ⟨#[]⟩⟩⟩ []
def ltZ (k : Int) (p : ByteArray) : Lt := ⟨k, p, [], 0, exZ, exZ⟩
theorem exZ_re (w : World) : RE 1 w (exZ.cs (.slice none 0 0)) exZ := ⟨_, rfl, by decide, ⟨by decide, by decide, by decide, by decide⟩, SlRep.nil⟩
theorem ltZ_c (w : World) (k : Int) (p : ByteArray) (hk : (Lit.int .i8 k).wf = true) (hp : p.size ≤ 140737488351232) : LtC w (ltZ k p) (.slice none 0 0) (.slice none 0 0) (.slice none 0 0) :=
  ⟨SlRep.nil, ⟨1, exZ_re w⟩, ⟨1, exZ_re w⟩, hk, (by show (Lit.int .i8 0).wf = true; decide), hp⟩
abbrev ltZs (k : Int) (p : ByteArray) : List Value := [.int .i8 k, .string p, .slice none 0 0, .int .i8 0, .int .i8 0, .string ⟨#[]⟩, .int .i8 0, .int .i64 0, .string ⟨#[]⟩, .slice none 0 0, .int .i8 0, .string ⟨#[]⟩, .int .i8 0, .int .i64 0, .string ⟨#[]⟩, .slice none 0 0]
set_option maxHeartbeats 2000000 in
set_option maxRecDepth 100000 in
theorem lawAtom_any (k : Int) (p : ByteArray) (w : World) :
    Calls Tryz.prog 27 #[.int .i8 k, .string p] w fun e w' => e = .returned (.agg (ltZs k p).toArray) ∧ Fut w w' := by
  go_enter Tryz.func27, Tryz.ntmps27
  go_wp2
  have hb := heap_alloc_new w (.cells (ltZs k p).toArray 68)
  refine bodyPost_ret (v := .agg (ltZs k p).toArray) (results_cell_row rfl _ _ w.heap.size _ (ltZs k p).toArray _ _ rfl hb Tryz.underlying68 rfl infoLtS) rfl ?_
  exact ⟨rfl, Fut.alloc _ _⟩
end Go.Proofs.YtgcgmbegkfaifaaGreatDoor
/- pedigreelaw09.other. -/
namespace Go.Proofs.YtgcgmbegkfaifaaGreatDoor
open Go.RowKit Go.WideMaps
set_option linter.unusedSimpArgs false
set_option linter.unusedVariables false

def xB : ByteArray := ⟨#[120]⟩
def yB : ByteArray := ⟨#[121]⟩
def zB : ByteArray := ⟨#[122]⟩
def ruZ : Ru := ⟨zB, [], [ltZ 2 yB, ltZ 1 zB]⟩
def ruY : Ru := ⟨yB, [], [ltZ 1 xB]⟩
def otherP : List Ru := [ruZ, ruY]
theorem set_foldO : ∀ (l : List Value) (off k : Nat) (arr : Array Value), off + k + l.length ≤ arr.size → (l.zipIdx k).foldl (fun cs (x : Value × Nat) => cs.setIfInBounds (off + x.2) x.1) arr = (arr.toList.take (off + k) ++ l ++ arr.toList.drop (off + k + l.length)).toArray
  | [], off, k, arr, h => by simp
  | v :: r, off, k, arr, h => by
    rw [List.length_cons] at h
    rw [List.zipIdx_cons, List.foldl_cons, set_foldO r off (k + 1) _ (by simp; omega)]
    congr 1
    have hk : off + k < arr.toList.length := by simp; omega
    rw [Array.toList_setIfInBounds, List.take_set, List.drop_set]
    have hz0 : off + (k + 1) - (off + k + 1) = 0 := by omega
    simp only [show ¬ off + (k + 1) + r.length ≤ off + k by omega, if_false]
    rw [List.set_eq_take_append_cons_drop]
    simp only [List.length_take, show off + k < min (off + (k + 1)) arr.toList.length by omega, if_true]
    rw [List.take_take, show min (off + k) (off + (k + 1)) = off + k by omega, List.drop_take]
    simp [List.length_cons, hz0, show off + (k + 1) + r.length = off + k + (r.length + 1) by omega]
/-- A slice of two structs. -/
theorem run_slice2 {P : Program} {t e : TypeId} {c1 c2 : List Value} {z : Value} {n m : Nat} (ht : P.underlying t = some (.slice e)) (hi : (P.info? e).map (fun i => (i.zero, i.size, i.bytes)) = some (some z, n, m)) (h1 : c1.length = n) (h2 : c2.length = n) (hp : 0 < n) (hsm : n ≤ 2 ^ 20) (w : World) :
    (Instr.buildSlice t 2 #[(0, .agg c1.toArray), (1, .agg c2.toArray)]).run P w = .ok (.slice (some ⟨w.heap.size, 0, none⟩) 2 2) (w.alloc (.cells (c1 ++ c2).toArray e)) := by
  obtain ⟨i, hq, hz, hs, _⟩ := info_parts hi
  refine run_buildSlice w t e 2 _ _ i z ht hq hz (by rw [hs]; omega) (by rw [hs]; omega) ?_
  rw [hs]
  have e1 : ∀ c : List Value, (Value.agg c.toArray).cells = c.toArray := fun c => rfl
  obtain ⟨arr, harr⟩ : ∃ a, ((Array.range (2 * n)).map (z.cells[· % z.cells.size]!)) = a := ⟨_, rfl⟩
  have hsz : arr.size = 2 * n := by rw [← harr]; simp
  rw [harr]
  have f1 := set_foldO c1 0 0 arr (by omega)
  have f2 : ∀ a2 : Array Value, a2.size = 2 * n → (c2.zipIdx 0).foldl (fun cs (x : Value × Nat) => cs.setIfInBounds (n + x.2) x.1) a2 = (a2.toList.take n ++ c2).toArray := fun a2 ha => by
    rw [set_foldO c2 n 0 a2 (by omega)]
    have : a2.toList.drop (n + 0 + c2.length) = [] := List.drop_eq_nil_of_le (by simp; omega)
    rw [this, List.append_nil, Nat.add_zero]
  unfold Instr.fill Instr.fill Instr.fill
  simp only [Nat.zero_mul, Nat.one_mul, e1]
  rw [if_neg (by simp; omega)]
  rw [← Array.foldl_toList, Array.toList_zipIdx]
  simp only [List.toList_toArray]
  rw [f1, if_neg (by simp; omega), ← Array.foldl_toList, Array.toList_zipIdx]
  simp only [List.toList_toArray]
  rw [f2 _ (by simp; omega)]
  simp
  rw [← h1, List.take_left]
theorem wpList_slice2 {P : Program} {ops : Array Oper} {rest : List Oper} {o : Oper} {a : Act} {w : World} {Q : Exit → Act → World → Prop} {t e : TypeId} {c1 c2 : List Value} {z : Value} {n m : Nat} (hg : o.guard = none) (x y : Operand) (ho : o.op = .buildSlice t 2 #[(0, x), (1, y)]) (hx : a.eval x = .agg c1.toArray) (hy : a.eval y = .agg c2.toArray)
    (ht : P.underlying t = some (.slice e)) (hi : (P.info? e).map (fun i => (i.zero, i.size, i.bytes)) = some (some z, n, m)) (h1 : c1.length = n) (h2 : c2.length = n) (hp : 0 < n) (hsm : n ≤ 2 ^ 20)
    (h : wpList P ops Q rest (a.put o.dst (.slice (some ⟨w.heap.size, 0, none⟩) 2 2)) (w.alloc (.cells (c1 ++ c2).toArray e))) : wpList P ops Q (o :: rest) a w := by
  refine wpList_of_run (wanted_none hg _) (v := .slice (some ⟨w.heap.size, 0, none⟩) 2 2) (w' := w.alloc (.cells (c1 ++ c2).toArray e)) ?_ h
  unfold execOp
  have h1' : (#[((0 : Nat), x), ((1 : Nat), y)].map fun (i, x) => (i, a.eval x)) = #[(0, .agg c1.toArray), (1, .agg c2.toArray)] := by simp [hx, hy]
  simp only [ho, h1', Sem.run_bind, Sem.run_pure, Result.andThen_ok, run_slice2 ht hi h1 h2 hp hsm]
/-- A list that lies in a block, from its first cell on. -/
theorem slBlk {α : Type} {sz b : Nat} {R : World → List Value → α → Prop} {W : World} {t : TypeId} {css : List (List Value)} {xs : List α} (h : W.heap[b]? = some (.cells css.flatten.toArray t (0, 0))) (hl : css.length = xs.length) (hs : ∀ (i : Nat) (cs : List Value), css[i]? = some cs → cs.length = sz) (hR : ∀ (i : Nat) (cs : List Value) (x : α), css[i]? = some cs → xs[i]? = some x → R W cs x) :
    SlRep sz xs.length R W (.slice (some ⟨b, 0, none⟩) xs.length xs.length) xs :=
  ⟨_, _, rfl, Nat.le_refl _, Nat.le_refl _, fun i x hx => by
    have hi : i < css.length := by have := (List.getElem?_eq_some_iff.1 hx).1; omega
    refine ⟨b, 0, css[i], rfl, hs i _ (List.getElem?_eq_getElem hi), fun j c hj => ?_, hR i _ x (List.getElem?_eq_getElem hi) hx⟩
    have := flatten_at hs i j _ c (List.getElem?_eq_getElem hi) hj
    rw [Nat.zero_add]
    exact cell_at h _ c (by simpa using this)⟩
theorem ltZ_rlt (W : World) (k : Int) (p : ByteArray) (hk : (Lit.int .i8 k).wf = true) (hp : p.size ≤ 140737488351232) : RLt W (ltZs k p) (ltZ k p) := (ltZ_c W k p hk hp).rlt
theorem lits2 {W : World} {b : Nat} {t : TypeId} {k1 k2 : Int} {p1 p2 : ByteArray} (h : W.heap[b]? = some (.cells (ltZs k1 p1 ++ ltZs k2 p2).toArray t (0, 0))) (a1 : (Lit.int .i8 k1).wf = true) (a2 : (Lit.int .i8 k2).wf = true) (b1 : p1.size ≤ 140737488351232) (b2 : p2.size ≤ 140737488351232) :
    SlRep 16 651562446089 RLt W (.slice (some ⟨b, 0, none⟩) 2 2) [ltZ k1 p1, ltZ k2 p2] :=
  (slBlk (css := [ltZs k1 p1, ltZs k2 p2]) (xs := [ltZ k1 p1, ltZ k2 p2]) (by simpa using h) rfl (fun i cs hi => by
    match i, hi with
    | 0, hi => injection hi with hi; subst hi; rfl
    | 1, hi => injection hi with hi; subst hi; rfl) (fun i cs x hi hx => by
    match i, hi, hx with
    | 0, hi, hx => injection hi with hi; injection hx with hx; subst hi; subst hx; exact ltZ_rlt W _ _ a1 b1
    | 1, hi, hx => injection hi with hi; injection hx with hx; subst hi; subst hx; exact ltZ_rlt W _ _ a2 b2)).more (by show (2 : Nat) ≤ _; decide)
theorem lits1 {W : World} {b : Nat} {t : TypeId} {k1 : Int} {p1 : ByteArray} (h : W.heap[b]? = some (.cells (ltZs k1 p1).toArray t (0, 0))) (a1 : (Lit.int .i8 k1).wf = true) (b1 : p1.size ≤ 140737488351232) :
    SlRep 16 651562446089 RLt W (.slice (some ⟨b, 0, none⟩) 1 1) [ltZ k1 p1] :=
  (slBlk (css := [ltZs k1 p1]) (xs := [ltZ k1 p1]) (by simpa using h) rfl (fun i cs hi => by
    match i, hi with
    | 0, hi => injection hi with hi; subst hi; rfl) (fun i cs x hi hx => by
    match i, hi, hx with
    | 0, hi, hx => injection hi with hi; injection hx with hx; subst hi; subst hx; exact ltZ_rlt W _ _ a1 b1)).more (by show (1 : Nat) ≤ _; decide)
theorem rules2 {W : World} {b g1 g2 : Nat} {t : TypeId} (h : W.heap[b]? = some (.cells #[.string zB, .slice none 0 0, .slice (some ⟨g1, 0, none⟩) 2 2, .string yB, .slice none 0 0, .slice (some ⟨g2, 0, none⟩) 1 1] t (0, 0))) (h1 : SlRep 16 651562446089 RLt W (.slice (some ⟨g1, 0, none⟩) 2 2) ruZ.b) (h2 : SlRep 16 651562446089 RLt W (.slice (some ⟨g2, 0, none⟩) 1 1) ruY.b) :
    SlRep 3 2199023255552 RRu W (.slice (some ⟨b, 0, none⟩) 2 2) otherP :=
  (slBlk (css := [[.string zB, .slice none 0 0, .slice (some ⟨g1, 0, none⟩) 2 2], [.string yB, .slice none 0 0, .slice (some ⟨g2, 0, none⟩) 1 1]]) (xs := otherP) (by simpa using h) rfl (fun i cs hi => by
    match i, hi with
    | 0, hi => injection hi with hi; subst hi; rfl
    | 1, hi => injection hi with hi; subst hi; rfl) (fun i cs x hi hx => by
    match i, hi, hx with
    | 0, hi, hx => injection hi with hi; injection hx with hx; subst hi; subst hx; exact ⟨_, _, rfl, by decide, SlRep.nil, h1⟩
    | 1, hi, hx => injection hi with hi; injection hx with hx; subst hi; subst hx; exact ⟨_, _, rfl, by decide, SlRep.nil, h2⟩)).more (by decide)
theorem infoPg : (Tryz.prog.info? 31).map (·.size) = some 1 := by kernel_rfl
set_option maxHeartbeats 4000000 in
set_option maxRecDepth 100000 in
theorem other_own (w : World) : Calls Tryz.prog 11 #[] w fun e w' => ∃ A, e = .returned (.agg #[.slice A 2 2]) ∧ (∀ W', Only (fun k => k < w.heap.size) w' W' → SlRep 3 2199023255552 RRu W' (.slice A 2 2) otherP) ∧ Fut w w' ∧ ∀ a, A = some a → w.heap.size ≤ a.block := by
  have hc := fun (k : Int) (p : ByteArray) W => lawAtom_any k p W
  go_enter Tryz.func11, Tryz.ntmps11
  go_wp2_with fail
  refine (hc 2 yB _).mono ?_
  rintro e w1 ⟨rfl, f1⟩
  go_wp2_with fail
  refine (hc 1 zB _).mono ?_
  rintro e w2 ⟨rfl, f2⟩
  go_wp2_with (first | (refine wpList_slice2 (c1 := ltZs 2 yB) (c2 := ltZs 1 zB) rfl _ _ rfl rfl rfl Tryz.underlying27 infoLtF rfl rfl (by decide) (by decide) ?_))
  refine (hc 1 xB _).mono ?_
  rintro e w3 ⟨rfl, f3⟩
  have f12 := Fut.alloc w2 (.cells (ltZs 2 yB ++ ltZs 1 zB).toArray 68)
  have bl := f3.block (heap_alloc_new w2 (.cells (ltZs 2 yB ++ ltZs 1 zB).toArray 68))
  have f34 := Fut.alloc w3 (.cells (ltZs 1 xB).toArray 68)
  have f45 := Fut.alloc (w3.alloc (.cells (ltZs 1 xB).toArray 68)) (.cells #[.string ⟨#[122]⟩, .slice none 0 0, .slice (some ⟨w2.heap.size, 0, none⟩) 2 2, .string ⟨#[121]⟩, .slice none 0 0, .slice (some ⟨w3.heap.size, 0, none⟩) 1 1] 29)
  have b0 := f45.block (f34.block (f3.block (f12.block (f2.block (f1.block (heap_alloc_new w (.cells #[.slice none 0 0] 31)))))))
  have b1 := f45.block (f34.block bl)
  have b2 := f45.block (heap_alloc_new w3 (.cells (ltZs 1 xB).toArray 68))
  have b3 := heap_alloc_new (w3.alloc (.cells (ltZs 1 xB).toArray 68)) (.cells #[.string ⟨#[122]⟩, .slice none 0 0, .slice (some ⟨w2.heap.size, 0, none⟩) 2 2, .string ⟨#[121]⟩, .slice none 0 0, .slice (some ⟨w3.heap.size, 0, none⟩) 1 1] 29)
  have z4 : (w3.alloc (.cells (ltZs 1 xB).toArray 68)).heap.size = w3.heap.size + 1 := by simp
  rw [z4] at b3
  have k0 := cell_at b0 0 (.slice none 0 0) rfl
  have k1 := free_at b0 0
  have F0 := Lib.hid (((((Fut.alloc w (.cells #[.slice none 0 0] 31)).trans f1).trans f2).trans f12).trans ((f3.trans f34).trans f45))
  have n2 : w.heap.size < w2.heap.size := by
    have h9 := (f1.trans f2).size
    rw [show (w.alloc (.cells #[.slice none 0 0] 31)).heap.size = w.heap.size + 1 from by simp] at h9
    omega
  have n3 : w.heap.size < w3.heap.size := by
    have h9 := (f12.trans f3).size
    omega
  have HB := Lib.hid (And.intro b0 (And.intro b1 (And.intro b2 b3)))
  have HN := Lib.hid (And.intro n2 n3)
  clear bl b0 b1 b2 b3 f12 f34 f45 f1 f2 f3 z4 n2 n3
  go_wp2_with (first | (refine wpList_slice1 (cs := ltZs 1 xB) rfl _ rfl rfl Tryz.underlying27 infoLtF rfl rfl (by decide) (by decide) ?_))
  obtain ⟨b0, b1, b2, b3⟩ := HB.out
  obtain ⟨n2, n3⟩ := HN.out
  obtain ⟨w5, hw5⟩ : ∃ W, ((w3.alloc (.cells (ltZs 1 xB).toArray 68)).alloc (.cells #[.string ⟨#[122]⟩, .slice none 0 0, .slice (some ⟨w2.heap.size, 0, none⟩) 2 2, .string ⟨#[121]⟩, .slice none 0 0, .slice (some ⟨w3.heap.size, 0, none⟩) 1 1] 29)).setCell ⟨w.heap.size, 0, none⟩ (.slice (some ⟨w3.heap.size + 1, 0, none⟩) 2 2) = W := ⟨_, rfl⟩
  have O2 : Only (fun k => k = w.heap.size) ((w3.alloc (.cells (ltZs 1 xB).toArray 68)).alloc (.cells #[.string ⟨#[122]⟩, .slice none 0 0, .slice (some ⟨w2.heap.size, 0, none⟩) 2 2, .string ⟨#[121]⟩, .slice none 0 0, .slice (some ⟨w3.heap.size, 0, none⟩) 1 1] 29)) w5 := by rw [← hw5]; exact Only.set _ _ rfl
  have hb := set_block (j := 0) (v := .slice (some ⟨w3.heap.size + 1, 0, none⟩) 2 2) b0
  rw [hw5] at hb
  rw [hw5]
  have LR := fun W' (hO : Only (fun k => k < w.heap.size) w5 W') => rules2 (hO.keeps (O2.keeps b3 (by omega)) (by omega)) (lits2 (hO.keeps (O2.keeps b1 (by omega)) (by omega)) (by decide) (by decide) (by decide) (by decide)) (lits1 (hO.keeps (O2.keeps b2 (by omega)) (by omega)) (by decide) (by decide))
  have OW : Only (fun k => w.heap.size ≤ k) w w5 := (Only.fut F0.out).trans (O2.mono fun k _ hk => by omega)
  refine bodyPost_ret (v := .agg #[.slice (some ⟨w3.heap.size + 1, 0, none⟩) 2 2]) (results_cell_row rfl _ _ w.heap.size _ #[.slice (some ⟨w3.heap.size + 1, 0, none⟩) 2 2] _ _ rfl hb Tryz.underlying31 rfl infoPg) rfl ?_
  exact ⟨_, rfl, LR, OW.toFut (fun k hk => hk), fun a ha => by injection ha with ha; subst ha; show w.heap.size ≤ w3.heap.size + 1; omega⟩
theorem other_any (w : World) : Calls Tryz.prog 11 #[] w fun e w' => ∃ A, e = .returned (.agg #[.slice A 2 2]) ∧ SlRep 3 2199023255552 RRu w' (.slice A 2 2) otherP ∧ Fut w w' := by
  refine (other_own w).mono ?_
  rintro e w' ⟨A, h1, h2, h3, _⟩
  exact ⟨A, h1, h2 w' (Only.refl _), h3⟩
end Go.Proofs.YtgcgmbegkfaifaaGreatDoor
/- A copy of rules reads as those rules; the copy with its first rule written over. -/
namespace Go.Proofs.YtgcgmbegkfaifaaGreatDoor
open Go.RowKit Go.WideMaps
set_option linter.unusedSimpArgs false
set_option linter.unusedVariables false

theorem TwTm.rd {B M : Nat} {w0 w : World} {v0 v : Value} {xs : List Tm} (h0 : SlRep 4 M RTm w0 v0 xs) (h : TwTm B w v xs) (hs : xs.length ≤ 100000000) : SlRep 4 2932031007402 RTm w v xs :=
  TwinE.rep h (fun g cs x hx hc => by
    obtain ⟨cs0, _, hok⟩ := sl_mem h0 x hx
    exact ⟨hc, hok⟩) (by omega)
theorem TwAr.rd {B M : Nat} {w0 w : World} {v0 v : Value} {xs : List Ar} (h0 : SlRep 5 M RAr w0 v0 xs) (h : TwAr B w v xs) (hs : xs.length ≤ 100000000) : SlRep 5 2513169434916 RAr w v xs :=
  TwinE.rep h (fun g cs x hx hc => by
    obtain ⟨cs0, _, hok⟩ := sl_mem h0 x hx
    exact ⟨hc, hok⟩) (by omega)
theorem TwEx.re : ∀ (m : Nat) {n g : Nat} {w0 w : World} {cs0 cs : List Value} {x : Ex}, RE n w0 cs0 x → TwEx m g w cs x → x.size ≤ 100000000 → RE m w cs x
  | 0, _, _, _, _, _, _, _, _, h, _ => h.elim
  | m + 1, 0, _, _, _, _, _, _, h, _, _ => h.elim
  | m + 1, n + 1, g, w0, w, cs0, cs, .mk op t kids, h0, h, hs => by
    obtain ⟨kv0, _, hw, hok, hk0⟩ := h0
    obtain ⟨kv, h1, h2⟩ := h
    have hsz : Ex.sizes kids < 100000000 := by
      unfold Ex.size at hs
      omega
    refine ⟨kv, h1, hw, hok, TwinE.rep h2 (fun g cs x hx hc => ?_) ?_⟩
    · obtain ⟨cs1, h3⟩ := sl_mem hk0 x hx
      exact TwEx.re m h3 hc (by have := size_kid hx; omega)
    · have := len_sizes kids
      omega
theorem TwLt.rlt {g : Nat} {w0 w : World} {cs0 cs : List Value} {x : Lt} (h0 : RLt w0 cs0 x) (h : TwLt g w cs x) (hs : x.fits) : RLt w cs x := by
  obtain ⟨_, _, _, _, _, _, a1, a2, a3, a4, ⟨n1, a5⟩, ⟨n2, a6⟩⟩ := h0
  obtain ⟨av, cl, cd, m1, m2, e, b1, b2, b3⟩ := h
  obtain ⟨s1, s2, s3⟩ := hs
  have r2 := TwEx.re m1 a5 b2 s2
  have r3 := TwEx.re m2 a6 b3 s3
  have l2 : cl.length = 6 := by obtain ⟨_, _, _, ks1, A1, c1, _, _, rfl, _, _, _⟩ := ex_form r2; rfl
  have l3 : cd.length = 6 := by obtain ⟨_, _, _, ks1, A1, c1, _, _, rfl, _, _, _⟩ := ex_form r3; rfl
  exact ⟨av, cl, cd, e, l2, l3, a1, a2, a3, TwTm.rd a4 b1 s1, ⟨m1, r2⟩, ⟨m2, r3⟩⟩
theorem TwRu.rru {g : Nat} {w0 w : World} {cs0 cs : List Value} {x : Ru} (h0 : RRu w0 cs0 x) (h : TwRu g w cs x) (hs : x.fits) : RRu w cs x := by
  obtain ⟨_, _, _, a1, a2, a3⟩ := h0
  obtain ⟨hv, bv, e, b1, b2⟩ := h
  obtain ⟨s1, s2, s3⟩ := hs
  refine ⟨hv, bv, e, a1, TwAr.rd a2 b1 s1, TwinE.rep b2 (fun g cs x hx hc => ?_) (by omega)⟩
  obtain ⟨cs1, h3⟩ := sl_mem a3 x hx
  exact TwLt.rlt h3 hc (s3 x hx)
/-- The words of a rule, that stay whatever happens in one block. -/
def RKu (g : Nat) (w : World) (cs : List Value) (x : Ru) : Prop := ∀ w', Only (fun k => k = g) w w' → RRu w' cs x
theorem RKu.only {g : Nat} {w w' : World} {cs : List Value} {x : Ru} (h : RKu g w cs x) (hO : Only (fun k => k = g) w w') : RKu g w' cs x := fun w2 h2 => h w2 (hO.trans h2)
theorem RKu.now {g : Nat} {w : World} {cs : List Value} {x : Ru} (h : RKu g w cs x) : RRu w cs x := h w (Only.refl _)
/-- A list of rules that begins a block, each rule's other memory outside of it. -/
def SlU (g : Nat) (w : World) (v : Value) (xs : List Ru) : Prop :=
  v = .slice (some ⟨g, 0, none⟩) xs.length (xs.length + 1) ∧ xs.length ≤ 100000000 ∧ ∃ arr, w.heap[g]? = some (.cells arr 29 (0, 0)) ∧ (xs.length + 1) * 3 ≤ arr.size ∧ ∀ (i : Nat) (x : Ru), xs[i]? = some x → ∃ cs : List Value, cs.length = 3 ∧ (∀ (j : Nat) (c : Value), cs[j]? = some c → arr[i * 3 + j]? = some c) ∧ RKu g w cs x
theorem SlU.fut {g : Nat} {w w' : World} {v : Value} {xs : List Ru} (h : SlU g w v xs) (hf : Fut w w') : SlU g w' v xs := by
  obtain ⟨h1, h2, arr, h3, h4, h5⟩ := h
  exact ⟨h1, h2, arr, hf.block h3, h4, fun i x hx => by
    obtain ⟨cs, a, b, c⟩ := h5 i x hx
    exact ⟨cs, a, b, c.only (Only.fut hf)⟩⟩
theorem SlU.rep {g : Nat} {w : World} {v : Value} {xs : List Ru} (h : SlU g w v xs) : SlRep 3 100000001 RRu w v xs := by
  obtain ⟨rfl, h2, arr, h3, h4, h5⟩ := h
  refine ⟨_, _, rfl, Nat.le_succ _, by omega, fun i x hx => ?_⟩
  obtain ⟨cs, a, b, c⟩ := h5 i x hx
  refine ⟨g, 0, cs, rfl, a, fun j v hj => ?_, c.now⟩
  rw [Nat.zero_add]
  exact cell_at h3 _ v (b j v hj)
theorem TwRus.slU {B M : Nat} {w0 w : World} {v0 v : Value} {xs : List Ru} (h0 : SlRep 3 M RRu w0 v0 xs) (h : TwRus B w v xs) (hn : xs.length ≤ 100000000) (hs : ∀ x ∈ xs, x.fits) : ∃ g, B ≤ g ∧ SlU g w v xs := by
  obtain ⟨g, css, h1, rfl, h3, h4, h5, h6⟩ := h
  obtain ⟨arr, b1, b2, b3⟩ := h4
  refine ⟨g, h1, rfl, hn, arr, b1, by omega, fun i x hx => ?_⟩
  have hil : i < xs.length := (List.getElem?_eq_some_iff.1 hx).1
  have hc : css[i]? = some (css[i]'(by omega)) := List.getElem?_eq_getElem (by omega)
  obtain ⟨hl, hre⟩ := h5 i x _ hx hc
  refine ⟨_, hl, fun j c hj => ?_, fun w' hO => ?_⟩
  · have hjl : j < 3 := by rw [← hl]; exact (List.getElem?_eq_some_iff.1 hj).1
    have hlt : i * 3 + j < (xs.length + 1) * 3 := by omega
    have h9 := b3 (i * 3 + j) hlt
    rw [cellsAt_get hc hj hjl] at h9
    have h8 : i * 3 + j < arr.size := by omega
    rw [Array.getElem?_eq_getElem h8, ← h9]
    simp [Array.getD, h8]
  · obtain ⟨cs0, h9⟩ := sl_mem h0 x (List.mem_of_getElem? hx)
    exact TwRu.rru h9 (hre.only hO fun k hk e => by omega) (hs x (List.mem_of_getElem? hx))
/-- A rule is written over. -/
theorem SlU.put {g : Nat} {w : World} {v : Value} {xs : List Ru} (h : SlU g w v xs) (i : Nat) (hi : i < xs.length) (cs : List Value) (z : Ru) (hl : cs.length = 3) (hz : RKu g w cs z) :
    w.there g (i * 3) 3 ∧ SlU g (w.setCells g (i * 3) cs) v (xs.set i z) ∧ Only (fun k => k = g) w (w.setCells g (i * 3) cs) := by
  obtain ⟨rfl, h2, arr, h3, h4, h5⟩ := h
  obtain ⟨arr', e1, e2, e3⟩ := setCells_put cs (i * 3) w arr h3
  have hO : Only (fun k => k = g) w (w.setCells g (i * 3) cs) := by rw [e1]; exact Only.put g _ rfl
  refine ⟨fun j hj => ⟨?_, ?_⟩, ⟨by rw [List.length_set], by rw [List.length_set]; exact h2, arr', ?_, by rw [List.length_set, e2]; exact h4, fun m x hx => ?_⟩, hO⟩
  · simp [World.cell?, h3]; omega
  · simp [World.frozen?, h3]
  · rw [e1]
    have := (Array.getElem?_eq_some_iff.1 h3).1
    simp [World.putObj, this]
  · rw [List.getElem?_set] at hx
    by_cases hm : i = m
    · subst hm
      rw [if_pos rfl, if_pos hi] at hx
      obtain rfl := Option.some.inj hx
      refine ⟨cs, hl, fun j c hj => ?_, hz.only hO⟩
      have hj3 : j < 3 := by rw [← hl]; exact (List.getElem?_eq_some_iff.1 hj).1
      rw [e3, if_pos ⟨by omega, by omega, by omega⟩]
      have : i * 3 + j - i * 3 = j := by omega
      rw [this]
      exact hj
    · rw [if_neg hm] at hx
      obtain ⟨cs2, a, b, c⟩ := h5 m x hx
      refine ⟨cs2, a, fun j c' hj => ?_, c.only hO⟩
      have hj3 : j < 3 := by rw [← a]; exact (List.getElem?_eq_some_iff.1 hj).1
      have hml : m < xs.length := (List.getElem?_eq_some_iff.1 hx).1
      have hne : ¬ (i * 3 ≤ m * 3 + j ∧ m * 3 + j < i * 3 + cs.length ∧ m * 3 + j < arr.size) := by omega
      rw [e3, if_neg hne]
      exact b j c' hj
/-- The cells of an element of a list that stays as it is. -/
theorem sl_keep {M g : Nat} {w : World} {b off n c : Nat} {xs : List Ru} {cs : List Value} {x : Ru} {k : Nat} (h : ∀ W', Only (fun k => k = g) w W' → SlRep 3 M RRu W' (.slice (some ⟨b, off, none⟩) n c) xs) (hb : b ≠ g) (hk : xs[k]? = some x) (hl : cs.length = 3) (hc : ∀ j v, cs[j]? = some v → w.cell? ⟨b, off + k * 3 + j, none⟩ = some v) : RKu g w cs x := fun W' hO => by
  obtain ⟨A1, cap1, hv, _, _, h3⟩ := h W' hO
  obtain ⟨b2, off2, cs2, hA, hl2, hc2, hr⟩ := h3 k x hk
  injection hv with hv _ _
  rw [← hv] at hA
  injection hA with hA
  injection hA with e1 e2
  subst e1; subst e2
  have : cs2 = cs := by
    refine List.ext_getElem (by omega) fun j h1 h2 => ?_
    have a1 := hO.cell (hc j _ (List.getElem?_eq_getElem h2)) hb
    have a2 := hc2 j _ (List.getElem?_eq_getElem h1)
    rw [← Nat.add_assoc, a1] at a2
    exact (Option.some.inj a2).symm
  rw [← this]
  exact hr
end Go.Proofs.YtgcgmbegkfaifaaGreatDoor
/- The document's term (layer 4): Variable, term, kids, nothing, CheckRule's parts. -/
namespace Go.Proofs.YtgcgmbegkfaifaaGreatDoor
open Go.RowKit
set_option linter.unusedSimpArgs false
set_option linter.unusedVariables false

set_option maxHeartbeats 800000 in
theorem rvariable_any (s : ByteArray) (w : World) (hs : s.size ≤ 140737488351232) : Calls Tryz.prog 164 #[.string s] w fun e w' => e = .returned (.bool (wordT 65 90 s)) ∧ Fut w w' := by
  have hw := Lib.hid (written_any s 65 90 w hs (fun c h1 h2 => by simp [letterN]; omega) (by omega))
  go_enter Tryz.func164, Tryz.ntmps164
  go_wp2_with fail
  refine hw.out.mono ?_
  rintro e w1 ⟨rfl, rfl⟩
  go_wp2
  go_ret
  exact ⟨rfl, Fut.refl _⟩
set_option maxHeartbeats 2000000 in
set_option maxRecDepth 100000 in
theorem rterm_any (t : Tm) (w : World) (ht : t.ok) : Calls Tryz.prog 135 #[.agg #[.string t.v, .int .i8 t.x.k, .int .i64 t.x.n, .string t.x.s]] w fun e w' => e = .returned (.bool t.good) ∧ Fut w w' := by
  have HW := Lib.hid (fun W => rvariable_any t.v W ht.1)
  have HC := Lib.hid (fun W => rcheck_any t.x.k t.x.n t.x.s W ht.2.2.2)
  have hchk := Lib.hid (chk_or t.x.k t.x.n t.x.s)
  obtain ⟨b, hb⟩ : ∃ b, t.good = b := ⟨_, rfl⟩
  rw [hb]
  replace hb := Lib.hid hb
  obtain ⟨v, k, n, s⟩ := t
  clear ht
  dsimp only at *
  have hbx := heap_alloc_new w (.cells #[.string v, .int .i8 k, .int .i64 n, .string s] 63)
  have f0 := Fut.alloc w (.cells #[.string v, .int .i8 k, .int .i64 n, .string s] 63)
  have hs1 : (w.alloc (.cells #[.string v, .int .i8 k, .int .i64 n, .string s] 63)).heap.size = w.heap.size + 1 := by simp
  have f1 := Fut.alloc (w.alloc (.cells #[.string v, .int .i8 k, .int .i64 n, .string s] 63)) (.cells #[.int .i8 0, .int .i64 0, .string ⟨#[]⟩] 61)
  have hb2 := heap_alloc_new (w.alloc (.cells #[.string v, .int .i8 k, .int .i64 n, .string s] 63)) (.cells #[.int .i8 0, .int .i64 0, .string ⟨#[]⟩] 61)
  rw [hs1] at hb2
  have hb1 := f1.block hbx
  have F01 := Lib.hid (f0.trans f1)
  have HB1 := Lib.hid hb1
  have HB2 := Lib.hid hb2
  clear hbx f0 f1 hs1 hb1 hb2
  by_cases hv : v.toList = []
  · have hvb : (v.toList == []) = true := by rw [hv]; rfl
    rcases hchk.out with hc | hc
    · obtain rfl : b = true := by rw [← hb.out]; simp [Tm.good, hv, hc]
      rw [hc] at HC
      go_enter Tryz.func135, Tryz.ntmps135
      go_wp2_with fail
      refine (HC.out _).mono ?_
      rintro e w1 ⟨rfl, f1⟩
      go_wp2
      go_ret
      exact ⟨rfl, F01.out.trans f1⟩
    · obtain rfl : b = false := by rw [← hb.out]; simp [Tm.good, hv, hc]
      rw [hc] at HC
      go_enter Tryz.func135, Tryz.ntmps135
      go_wp2_with fail
      refine (HC.out _).mono ?_
      rintro e w1 ⟨rfl, f1⟩
      go_wp2
      go_ret
      exact ⟨rfl, F01.out.trans f1⟩
  · have hvb : (v.toList == []) = false := by rw [beq_eq_false_iff_ne]; exact hv
    by_cases hu : v.toList = [95]
    · have hub : (v.toList == [95]) = true := by rw [hu]; rfl
      have hgo : b = (decide (k = 0) && decide (n = 0) && decide (s.toList = [])) := by rw [← hb.out]; simp [Tm.good, hu]
      go_enter Tryz.func135, Tryz.ntmps135
      go_wp2
      all_goals go_ret
      all_goals refine ⟨?_, (Fut.alloc _ _).trans (Fut.alloc _ _)⟩
      all_goals (rw [hgo]; simp_all)
    · have hub : (v.toList == [95]) = false := by rw [beq_eq_false_iff_ne]; exact hu
      have hgo : b = ((decide (k = 0) && decide (n = 0) && decide (s.toList = [])) && wordT 65 90 v) := by rw [← hb.out]; simp [Tm.good, hu, hv]
      obtain ⟨q, hq⟩ : ∃ q, wordT 65 90 v = q := ⟨_, rfl⟩
      rw [hq] at HW hgo
      clear hq hb
      go_enter Tryz.func135, Tryz.ntmps135
      go_wp2_with fail
      refine (HW.out _).mono ?_
      rintro e w1 ⟨rfl, f1⟩
      have F1 := Lib.hid (F01.out.trans f1)
      have b1 := f1.block HB1.out
      have b2 := f1.block HB2.out
      have c1 := cell_at b1 1 _ rfl
      have c2 := cell_at b1 2 _ rfl
      have c3 := cell_at b1 3 _ rfl
      have d0 := cell_at b2 0 _ rfl
      have d1 := cell_at b2 1 _ rfl
      have d2 := cell_at b2 2 _ rfl
      clear f1 b1 b2
      cases q
      · go_wp2
        go_ret
        exact ⟨by rw [hgo]; simp, F1.out⟩
      · go_wp2
        all_goals go_ret
        all_goals refine ⟨?_, F1.out⟩
        all_goals (rw [hgo]; simp_all)
end Go.Proofs.YtgcgmbegkfaifaaGreatDoor
/- The document's expressions (layer 4): kids, nothing, expr. -/
namespace Go.Proofs.YtgcgmbegkfaifaaGreatDoor
open Go.RowKit
set_option linter.unusedSimpArgs false
set_option linter.unusedVariables false

theorem sl_rowR {α : Type} {sz M : Nat} {R : World → List Value → α → Prop} {w : World} {A : Option Addr} {n cap : Nat} {xs : List α} (h : SlRep sz M R w (.slice A n cap) xs) {k : Nat} (hk : k < xs.length) :
    ∃ b off cs, A = some ⟨b, off, none⟩ ∧ R w cs xs[k] ∧ cs.length = sz ∧ ∀ j v, cs[j]? = some v → w.cell? ⟨b, off + k * sz + j, none⟩ = some v := by
  obtain ⟨A1, cap1, hv, _, _, h3⟩ := h
  obtain ⟨b, off, cs, hA, hl, hc, hr⟩ := h3 k _ (List.getElem?_eq_getElem hk)
  injection hv with hv _ _
  exact ⟨b, off, cs, hv.trans hA, hr, hl, fun j v hj => by rw [Nat.add_assoc]; exact hc j v hj⟩
theorem infoTm4' : (Tryz.prog.info? 63).map (·.size) = some 4 := by kernel_rfl
theorem arity_one {op : Int} (h : op = 1 ∨ (8 ≤ op ∧ op ≤ 10)) : arityE op = 1 := by
  unfold arityE; rw [if_pos (by omega)]
theorem arity_two {op : Int} (h : ¬ (op = 1 ∨ (8 ≤ op ∧ op ≤ 10))) (h2 : 2 ≤ op ∧ op ≤ 7) : arityE op = 2 := by
  unfold arityE; rw [if_neg (by omega), if_pos (by omega)]
theorem arity_none {op : Int} (h : ¬ (op = 1 ∨ (8 ≤ op ∧ op ≤ 10))) (h2 : ¬ (2 ≤ op ∧ op ≤ 7)) : arityE op = -1 := by
  unfold arityE; rw [if_neg (by omega), if_neg (by omega)]
set_option maxHeartbeats 1600000 in
theorem rkids_any (op : Int) (w : World) : Calls Tryz.prog 165 #[.int .i8 op] w fun e w' => e = .returned (.int .i64 (arityE op)) ∧ Fut w w' := by
  by_cases h1 : op = 1
  · rw [arity_one (.inl h1)]
    subst h1
    go_enter Tryz.func165, Tryz.ntmps165
    go_wp2
    go_ret
    exact ⟨rfl, Fut.refl _⟩
  · have b1 : (op == 1) = false := by rw [beq_eq_false_iff_ne]; exact h1
    by_cases h2 : 8 ≤ op ∧ op ≤ 10
    · rw [arity_one (.inr h2)]
      obtain ⟨h3, h4⟩ := h2
      have h3' : op ≥ 8 := h3
      go_enter Tryz.func165, Tryz.ntmps165
      go_wp2
      go_ret
      exact ⟨rfl, Fut.refl _⟩
    · by_cases h5 : 2 ≤ op ∧ op ≤ 7
      · rw [arity_two (by omega) h5]
        obtain ⟨h6, h7⟩ := h5
        have h6' : op ≥ 2 := h6
        have h8 : ¬ 8 ≤ op := by omega
        have h8' : ¬ op ≥ 8 := by omega
        go_enter Tryz.func165, Tryz.ntmps165
        go_wp2
        go_ret
        exact ⟨rfl, Fut.refl _⟩
      · rw [arity_none (by omega) h5]
        by_cases h8 : 8 ≤ op
        · have h8' : op ≥ 8 := h8
          have h9 : ¬ op ≤ 10 := by omega
          have h10 : 2 ≤ op := by omega
          have h11 : ¬ op ≤ 7 := by omega
          go_enter Tryz.func165, Tryz.ntmps165
          go_wp2
          go_ret
          exact ⟨rfl, Fut.refl _⟩
        · have h8' : ¬ op ≥ 8 := h8
          have h10 : ¬ 2 ≤ op := by omega
          go_enter Tryz.func165, Tryz.ntmps165
          go_wp2
          go_ret
          exact ⟨rfl, Fut.refl _⟩
set_option maxHeartbeats 1600000 in
theorem rnothing_any (x : Ex) (A : Option Addr) (c : Nat) (w : World) : Calls Tryz.prog 137 #[.agg (x.cs (.slice A x.kids.length c)).toArray] w fun e w' => e = .returned (.bool x.empty) ∧ Fut w w' := by
  obtain ⟨b, hb⟩ : ∃ b, x.empty = b := ⟨_, rfl⟩
  rw [hb]
  obtain ⟨op, ⟨v, ⟨k, n, s⟩⟩, ks⟩ := x
  replace hb : (decide (op = 0) && (decide (v.toList = []) && decide (k = 0) && decide (n = 0) && decide (s.toList = [])) && decide (ks.length = 0)) = b := hb
  show Calls _ _ #[.agg #[.int .i8 op, .string v, .int .i8 k, .int .i64 n, .string s, .slice A ks.length c]] w _
  generalize ks.length = l at *
  by_cases h0 : op = 0
  · subst h0
    by_cases hz : v.toList = [] ∧ k = 0 ∧ n = 0 ∧ s.toList = []
    · obtain ⟨hv, rfl, rfl, hs⟩ := hz
      go_enter Tryz.func137, Tryz.ntmps137
      go_wp2
      go_ret
      refine ⟨?_, (Fut.alloc _ _).trans (Fut.alloc _ _)⟩
      rw [← hb]
      simp [hv, hs]
      rw [Bool.eq_iff_iff]
      simp
    · have hbf : b = false := by
        rw [← hb, Bool.eq_false_iff]
        intro h
        simp at h
        exact hz ⟨h.1.1.1.1, h.1.1.1.2, h.1.1.2, h.1.2⟩
      rw [hbf]
      clear hb hbf
      go_enter Tryz.func137, Tryz.ntmps137
      go_wp2
      all_goals first
        | (exfalso; apply hz; refine ⟨?_, ?_, ?_, ?_⟩ <;> first | rfl | assumption)
        | (go_ret; exact ⟨rfl, (Fut.alloc _ _).trans (Fut.alloc _ _)⟩)
  · have hbf : b = false := by rw [← hb, decide_eq_false h0]; rfl
    have h0b : (op == 0) = false := by rw [beq_eq_false_iff_ne]; exact h0
    rw [hbf]
    clear hb hbf
    go_enter Tryz.func137, Tryz.ntmps137
    go_wp2
    go_ret
    exact ⟨rfl, (Fut.alloc _ _).trans (Fut.alloc _ _)⟩
set_option maxHeartbeats 1600000 in
set_option maxRecDepth 100000 in
theorem ratom_any {M : Nat} (p : ByteArray) (A : Option Addr) (c : Nat) (xs : List Tm) (w : World) (h : SlRep 4 M RTm w (.slice A xs.length c) xs) (hM : M ≤ 9223372036854775807) (hp : p.size ≤ 140737488351232) :
    Calls Tryz.prog 136 #[.agg #[.string p, .slice A xs.length c]] w fun e w' => e = .returned (.bool (atomG p xs)) ∧ Fut w w' := by
  have HN := Lib.hid (fun W => rname_any p W hp)
  have hnv : nameV p = nameT p := by rw [nameV_eq, Bool.and_comm]; rfl
  rw [hnv] at HN
  have hxl : xs.length ≤ 9223372036854775807 := by obtain ⟨_, _, hv, h8, h9⟩ := h.form; omega
  have H := Lib.hid h
  obtain ⟨b, hb⟩ : ∃ b, atomG p xs = b := ⟨_, rfl⟩
  rw [hb]
  unfold atomG at hb
  have hbx := heap_alloc_new w (.cells #[.string p, .slice A xs.length c] 56)
  have f0 := Fut.alloc w (.cells #[.string p, .slice A xs.length c] 56)
  have F0 := Lib.hid f0
  have HB := Lib.hid hbx
  have c1 := Lib.hid (cell_at hbx 1 _ rfl)
  obtain ⟨nb, hnb⟩ : ∃ q, nameT p = q := ⟨_, rfl⟩
  rw [hnb] at hb HN
  clear h hnv hnb hbx f0
  go_enter Tryz.func136, Tryz.ntmps136
  go_wp2_with fail
  refine (HN.out _).mono ?_
  rintro e w1 ⟨rfl, f1⟩
  have F1 := Lib.hid (F0.out.trans f1)
  have d1 := f1.cell c1.out
  clear f1 HN HB
  cases nb
  · obtain rfl : false = b := hb
    go_wp2
    go_ret
    exact ⟨rfl, F1.out⟩
  · by_cases hl : xs.length ≤ 24
    · have hlI : ¬ ((xs.length : Int) > 24) := by omega
      have hlI2 : ¬ ((24 : Int) < xs.length) := by omega
      have hall : xs.all Tm.good = b := by rw [← hb, decide_eq_true hl]; simp
      have D1 := Lib.hid d1
      have hall' := Lib.hid hall
      clear hb hall
      go_wp2_with fail
      go_loopw [3] (fun i wr => ∃ k : Nat, k ≤ xs.length ∧ i = .int .i64 k ∧ Hid (∀ x ∈ xs.take k, x.good = true) ∧ Hid (Fut w1 wr)) (fun i _ => xs.length - (intOf i).toNat)
      case atStart => exact ⟨0, Nat.zero_le _, rfl, Lib.hid (fun x hx => by simp at hx), Lib.hid (Fut.refl _)⟩
      case round =>
        obtain ⟨k, hk, rfl, hI, hF⟩ := hrel
        have g1 := hF.out.cell D1.out
        by_cases hlt : k < xs.length
        · have hltI : (k : Int) < xs.length := by omega
          have e0 : (0 : Int) ≤ k ∧ (k : Int) < xs.length := by omega
          obtain ⟨b', off, cs, rfl, hr, _, hcs⟩ := sl_rowR (H.out.fut RTm.stays (F1.out.trans hF.out)) hlt
          obtain ⟨rfl, hok⟩ := hr
          have htk := Lib.hid (List.take_succ_eq_append_getElem hlt)
          have hmem := Lib.hid (List.getElem_mem hlt)
          generalize xs[k] = z at *
          have HT := Lib.hid (rterm_any z wr hok)
          have hcs9 := Lib.hid hcs
          have hi4 := infoTm4'
          clear hcs hok
          go_wp2_with (first | (show wpList _ _ _ (Oper.mk _ (Op.load 63 _) _ _ _ _ :: _) _ _; refine Go.wpList_load_mid rfl _ _ rfl b' (off + k * 4) rfl z.cells _ hcs9.out Tryz.underlying63 rfl hi4 ?_))
          refine HT.out.mono ?_
          rintro e w3 ⟨rfl, f3⟩
          have F3 := Lib.hid (hF.out.trans f3)
          clear f3 HT
          cases hg : z.good
          · have hbf : b = false := by
              rw [← hall'.out, List.all_eq_false]
              exact ⟨z, hmem.out, by rw [hg]; decide⟩
            subst hbf
            go_wp2
            go_ret
            exact ⟨rfl, F1.out.trans F3.out⟩
          · have HI := Lib.hid (show ∀ x ∈ xs.take (k + 1), x.good = true from fun x hx => by
              rw [htk.out, List.mem_append] at hx
              rcases hx with hx | hx
              · exact hI.out x hx
              · rw [List.mem_singleton] at hx; rw [hx]; exact hg)
            go_wp2
            go_roundw
            case rel => exact ⟨k + 1, by omega, by go_num, HI, F3⟩
            case measure => simp [intOf] <;> omega
        · obtain rfl : k = xs.length := by omega
          have hbt : b = true := by
            rw [← hall'.out, List.all_eq_true]
            intro x hx
            exact hI.out x (by rw [List.take_length]; exact hx)
          subst hbt
          go_wp2
          go_ret
          exact ⟨rfl, F1.out.trans hF.out⟩
    · have hlI : (xs.length : Int) > 24 := by omega
      have hlI2 : (24 : Int) < xs.length := by omega
      obtain rfl : b = false := by rw [← hb, decide_eq_false hl]; rfl
      go_wp2
      go_ret
      exact ⟨rfl, F1.out⟩
end Go.Proofs.YtgcgmbegkfaifaaGreatDoor
