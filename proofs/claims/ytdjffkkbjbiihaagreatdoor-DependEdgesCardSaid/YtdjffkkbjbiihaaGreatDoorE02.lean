/- Parts. -/
import Derived.ProofKit
import Derived.WideKeyArgs
import Derived.Deep.Slices
import Derived.Carry
import Derived.Laws.IdiomStrings
import Derived.Laws.MakeOwn
import Derived.Laws.Entries
import Derived.SizedLaws
import Derived.Laws.AppendOwn
import Derived.OwnWalk
import Derived.WideKeyArr2
import Derived.Maps.Keyed
import Derived.Laws.StructEq
import Derived.Laws.Rows
import Derived.RangeFuncNested
import Derived.RangeFuncLeaves
import Derived.Deep.MidRow
import Derived.Test.YtdjffkkbjbiihaaGreatDoorE01
set_option linter.unusedSimpArgs false
set_option linter.unusedVariables false
namespace Go.Proofs.YtdjffkkbjbiihaaGreatDoor
open Go.RowKit Go.ChangeShapes Go.WideShapes Go.ChangeAt Go.Deep
section
variable {H : Type} {enc : TypeId × Value → H} {P : Program}
theorem trodAll_stays (hl : laidOutB P = true) {W W' : World} {sp' : Nat → Bool} : ∀ {ts : List TypeId} {vs : List Value} {ds : List (DataW H)} {ps : List MemPlace},
  (ts.all fun t => P.readableRec t && decide (t < P.types.size)) = true → DataW.TrodAll enc P W 0 (fun _ => true) true ts vs ds ps → (∀ p ∈ ps, W.sameAt W' p) → (∀ p ∈ ps, sp' p.block = true) →
  DataW.TrodAll enc P W' 0 sp' true ts vs ds ps
 | [], [], [], ps, _, h, _, _ => h
 | [], _ :: _, _, _, _, h, _, _ => by simp [DataW.TrodAll] at h
 | [], [], _ :: _, _, _, h, _, _ => by simp [DataW.TrodAll] at h
 | t :: ts, [], _, _, _, h, _, _ => by simp [DataW.TrodAll] at h
 | t :: ts, v :: vs, [], _, _, h, _, _ => by simp [DataW.TrodAll] at h
 | t :: ts, v :: vs, d :: ds, ps, ht, h, hs, hsp => by
  obtain ⟨p, q, h1, h2, rfl⟩ := h
  simp only [List.all_cons, Bool.and_eq_true, decide_eq_true_eq] at ht
  exact ⟨p, q, WideElems.Trod_stays hl ht.1.1 ht.1.2 h1 (fun x hx => hs x (List.mem_append_left _ hx)) (fun x hx => hsp x (List.mem_append_left _ hx)),
   trodAll_stays hl (by simpa using ht.2) h2 (fun x hx => hs x (List.mem_append_right _ hx)) (fun x hx => hsp x (List.mem_append_right _ hx)), rfl⟩
theorem law_post {f : Func} {s : ChangeSpec} {tb : TypeId} {W W' : World} {args : Array Value} {ds gs : List (DataW H)} {before : List MemPlace} (hl : laidOutB P = true)
  (hW : DataW.Whole enc P f.params.toList s.vars false W args.toList ds gs before) (hv : s.vars = [])
  (ht : (f.params.toList.all fun t => P.readableRec t && decide (t < P.types.size)) = true)
  (hr : f.resultTypes = #[tb]) (hb : P.underlying tb = some .bool)
  (hres : (s.fn H (ds ++ gs)).results = [.lit (.bool true)]) (hargs : (s.fn H (ds ++ gs)).args = ds) (hvars : (s.fn H (ds ++ gs)).vars = [])
  (hf : Fut W W') : s.post enc P f false true false false W args (.bool true) W' := by
 have hW0 := hW
 obtain ⟨p, q, hA, hV, rfl, hfz, _⟩ := hW
 rw [hv] at hV
 obtain ⟨rfl, rfl⟩ := trodVars_none hV
 have hlt : ∀ x ∈ p ++ [], x.block < W.heap.size := fun x hx => hW0.lt x hx
 have hold : ∀ x ∈ p ++ [], (fun b => decide (b < W.heap.size)) x.block = true := fun x hx => by simpa using hlt x hx
 have hA' : ∀ sp : Nat → Bool, (∀ x ∈ p ++ [], sp x.block = true) → DataW.TrodAll enc P W' 0 sp true f.params.toList args.toList ds p := fun sp hsp =>
  trodAll_stays hl ht hA (fun x hx => hf.same (hlt x (List.mem_append_left _ hx))) (fun x hx => hsp x (List.mem_append_left _ hx))
 have hres' : ∀ (b : Nat) (sp : Nat → Bool) (hd : Bool), DataW.TrodAll enc P W' b sp hd f.resultTypes.toList ((Value.bool true).resultList f.resultTypes.size) (s.fn H (ds ++ [])).results [] := fun b sp hd => by
  rw [hres, hr]
  exact trodAll_mk1 (shut_bool hb true)
 have hV' : ∀ sp : Nat → Bool, DataW.TrodVars enc P W' sp s.vars (s.fn H (ds ++ [])).vars [] := fun sp => by
  rw [hvars, hv]
  rfl
 have hA3 : ∀ sp : Nat → Bool, (∀ x ∈ p ++ [], sp x.block = true) → DataW.TrodAll enc P W' 0 sp true f.params.toList args.toList (s.fn H (ds ++ [])).args p := by rw [hargs]; exact hA'
 refine ⟨ds, [], p ++ [], [], p, [], hW0, hres' _ _ _, hA3 _ hold, hV' _, World.keptBut_mono (fun x hx => ⟨hx, Or.inr (List.mem_append.1 hx)⟩) (hf.frame (· ∈ p ++ [])), fun _ => ?_⟩
 refine ⟨?_, _, _, ([] ++ p) ++ [], ⟨[] ++ p, [], trodAll_append (hA3 _ (fun _ _ => rfl)) (hres' _ _ _), hV' _, rfl, ?_, fun h => by cases h⟩, ?_⟩
 ·intro j t r hj hv'
  rw [hr] at hj hv'
  match j, hj, hv' with
  | 0, hj, hv' =>
   simp [Value.resultList] at hj hv'
   subst hj; subst hv'
   exact okWide_bool_mk hb true
 ·intro b off hp
  have hin : MemPlace.cell b off ∈ p ++ [] := by simpa using hp
  rw [Below.frozen hf (hlt _ hin)]
  exact hfz b off hin
 ·intro x hx _
  simpa using hx
end
theorem weights_arg {H : Type} {P : Program} {ts : List TypeId} {ds : List (DataW H)} (h : (DataW.weightsEach P ts ds).all (· ≤ reachBytes) = true) (j : Nat) {t : TypeId} {d : DataW H} (ht : ts[j]? = some t) (hd : ds[j]? = some d) : ∀ n ∈ d.weights P t, n ≤ reachBytes :=
 fun n hn => by simpa using List.all_eq_true.1 h n (DataW.weights_mem_each ht hd n hn)
def SlRep {α : Type} (sz M : Nat) (R : World → List Value → α → Prop) (w : World) (v : Value) (xs : List α) : Prop :=
 ∃ (A : Option Addr) (cap : Nat), v = .slice A xs.length cap ∧ xs.length ≤ cap ∧ cap ≤ M ∧
  ∀ i x, xs[i]? = some x → ∃ b off cs, A = some ⟨b, off, none⟩ ∧ cs.length = sz ∧ (∀ j c, cs[j]? = some c → w.cell? ⟨b, off + (i * sz + j), none⟩ = some c) ∧ R w cs x
def Stays {α : Type} (R : World → List Value → α → Prop) : Prop := ∀ w w' cs x, Fut w w' → R w cs x → R w' cs x
theorem SlRep.fut {α : Type} {sz M : Nat} {R : World → List Value → α → Prop} (hR : Stays R) {w w' : World} {v : Value} {xs : List α} (h : SlRep sz M R w v xs) (hf : Fut w w') : SlRep sz M R w' v xs := by
 obtain ⟨A, cap, hv, h1, h2, h3⟩ := h
 refine ⟨A, cap, hv, h1, h2, fun i x hx => ?_⟩
 obtain ⟨b, off, cs, hA, hl, hc, hr⟩ := h3 i x hx
 exact ⟨b, off, cs, hA, hl, fun j c hj => hf.cell (hc j c hj), hR _ _ _ _ hf hr⟩
theorem SlRep.more {α : Type} {sz M M' : Nat} {R : World → List Value → α → Prop} {w : World} {v : Value} {xs : List α} (h : SlRep sz M R w v xs) (hM : M ≤ M') : SlRep sz M' R w v xs := by
 obtain ⟨A, cap, hv, h1, h2, h3⟩ := h
 exact ⟨A, cap, hv, h1, by omega, h3⟩
theorem SlRep.imp {α : Type} {sz M : Nat} {R R' : World → List Value → α → Prop} {w : World} {v : Value} {xs : List α} (h : SlRep sz M R w v xs) (hR : ∀ cs x, R w cs x → R' w cs x) : SlRep sz M R' w v xs := by
 obtain ⟨A, cap, hv, h1, h2, h3⟩ := h
 refine ⟨A, cap, hv, h1, h2, fun i x hx => ?_⟩
 obtain ⟨b, off, cs, hA, hl, hc, hr⟩ := h3 i x hx
 exact ⟨b, off, cs, hA, hl, hc, hR _ _ hr⟩
theorem SlRep.form {α : Type} {sz M : Nat} {R : World → List Value → α → Prop} {w : World} {v : Value} {xs : List α} (h : SlRep sz M R w v xs) : ∃ A cap, v = .slice A xs.length cap ∧ xs.length ≤ cap ∧ cap ≤ M := by
 obtain ⟨A, cap, hv, h1, h2, _⟩ := h
 exact ⟨A, cap, hv, h1, h2⟩
theorem SlRep.len {α : Type} {sz M : Nat} {R : World → List Value → α → Prop} {w : World} {v : Value} {xs : List α} (h : SlRep sz M R w v xs) : xs.length ≤ M := by
 obtain ⟨A, cap, hv, h1, h2, _⟩ := h
 omega
def SlR {α : Type} (sz M : Nat) (R : World → List Value → α → Prop) (w : World) (cs : List Value) (xs : List α) : Prop := ∃ v, cs = [v] ∧ SlRep sz M R w v xs
theorem SlR.stays {α : Type} {sz M : Nat} {R : World → List Value → α → Prop} (hR : Stays R) : Stays (SlR sz M R) := fun _ _ _ _ hf ⟨v, h1, h2⟩ => ⟨v, h1, h2.fut hR hf⟩
theorem SlRep.nil {α : Type} {sz M : Nat} {R : World → List Value → α → Prop} {w : World} : SlRep sz M R w (.slice none 0 0) ([] : List α) :=
 ⟨none, 0, rfl, Nat.le_refl _, Nat.zero_le _, fun i x hx => by simp at hx⟩
def Reads {α : Type} (P : Program) (t : TypeId) (R : World → List Value → α → Prop) : Prop :=
 ∀ (H : Type) (enc : TypeId × Value → H) (w : World) (base : Nat) (held : Bool) (fuel : Nat) (cs : List Value) (x : DataW H × List MemPlace), DataW.trod enc P w base (fun _ => true) held fuel t cs = some x →
  (∀ n ∈ x.1.weights P t, n ≤ reachBytes) → ∃ d, R w cs d
theorem Reads.imp {α : Type} {P : Program} {t : TypeId} {R R' : World → List Value → α → Prop} (h : Reads P t R) (hR : ∀ w cs d, R w cs d → R' w cs d) : Reads P t R' := fun H enc w base held fuel cs x hx hn => by
 obtain ⟨d, hd⟩ := h H enc w base held fuel cs x hx hn
 exact ⟨d, hR _ _ _ hd⟩
theorem exists_list {α : Type} {p : Nat → α → Prop} : ∀ n, (∀ i, i < n → ∃ x, p i x) → ∃ xs : List α, xs.length = n ∧ ∀ i x, xs[i]? = some x → p i x
 | 0, _ => ⟨[], rfl, fun i x hx => by simp at hx⟩
 | n + 1, h => by
  obtain ⟨xs, hl, hx⟩ := exists_list n fun i hi => h i (by omega)
  obtain ⟨y, hy⟩ := h n (by omega)
  refine ⟨xs ++ [y], by simp [hl], fun i x hi => ?_⟩
  rcases Nat.lt_or_ge i n with h' | h'
  ·exact hx i x (by rwa [List.getElem?_append_left (by omega)] at hi)
  ·rw [List.getElem?_append_right (by omega), hl] at hi
   have : i = n := by
    have := (List.getElem?_eq_some_iff.1 hi).1
    simp at this; omega
   subst this
   simp at hi
   rw [← hi]; exact hy
theorem weightsAll_mem {H : Type} {P : Program} {e : TypeId} : ∀ {ds : List (DataW H)} {d : DataW H}, d ∈ ds → ∀ n ∈ d.weights P e, n ∈ DataW.weightsAll P e ds
 | d0 :: r, d, hd, n, hn => by
  simp only [DataW.weightsAll, List.mem_append]
  rcases List.mem_cons.1 hd with rfl | h
  ·exact .inl hn
  ·exact .inr (weightsAll_mem h n hn)
theorem reads_slice {α : Type} {P : Program} {t e : TypeId} {sz M : Nat} {R : World → List Value → α → Prop} (ht : P.underlying t = some (.slice e)) (hc : P.cellsOf e = sz) (h0 : 0 < sz) (hM : ∀ c, c * P.bytesOf e ≤ reachBytes → c ≤ M) (hR : Reads P e R) : Reads P t (SlR sz M R) := by
 intro H enc w base held fuel cs x h hn
 rcases open_slice ht h with ⟨h1, _⟩ | ⟨a, len, cap, m, n, D, Pl, hcs, hb, hl, hm, hmm, hx, hi⟩
 ·exact ⟨[], _, h1, SlRep.nil⟩
 ·have hlm : len ≤ m := by rw [hmm]; simp; exact hl
  have hmc : m = cap := by rw [hmm]; simp
  have hw : x.1.weights P t = (len + (cap - len)) * P.bytesOf e :: (DataW.weightsAll P e ((List.range len).map D) ++ DataW.weightsAll P e ((List.range (m - len)).map fun j => D (len + j))) := by
   rw [hx]
   simp [DataW.weights, ht, hmc]
  have hcap : cap ≤ M := hM cap (by
   have := hn ((len + (cap - len)) * P.bytesOf e) (by rw [hw]; simp)
   rwa [show len + (cap - len) = cap by omega] at this)
  obtain ⟨xs, hxl, hxs⟩ := exists_list (p := fun i x => ∃ b off cs', some a = some ⟨b, off, none⟩ ∧ cs'.length = sz ∧ (∀ j c, cs'[j]? = some c → w.cell? ⟨b, off + (i * sz + j), none⟩ = some c) ∧ R w cs' x) len fun i hil => by
   obtain ⟨cs', h1, h2⟩ := hi i (by omega)
   obtain ⟨y, hy⟩ := hR H enc w base held n cs' _ h2 fun k hk => hn k (by
    rw [hw]
    refine List.mem_cons_of_mem _ (List.mem_append_left _ (weightsAll_mem (d := D i) ?_ k hk))
    exact List.mem_map.2 ⟨i, List.mem_range.2 hil, rfl⟩)
   rw [hc] at h1
   obtain ⟨_, hlen, hcell⟩ := World.cells?_some h1
   obtain ⟨ab, ao, asp⟩ := a
   have hsp : asp = none ∨ ∀ j, j < sz → False := by
    cases asp with
    | none => exact .inl rfl
    | some q =>
     right
     intro j hj
     have h0' := (hi 0 (by omega))
     obtain ⟨cs0, hz0, _⟩ := h0'
     rw [hc] at hz0
     obtain ⟨_, hlen0, hcell0⟩ := World.cells?_some hz0
     have := hcell0 0 h0
     rw [List.getElem?_eq_getElem (by omega)] at this
     unfold World.cell? Addr.add at this
     simp at this
     split at this <;> simp at this
   rcases hsp with rfl | hsp
   ·refine ⟨y, ab, ao, cs', rfl, hlen, fun j c hj => ?_, hy⟩
    have hjl : j < sz := by rw [← hlen]; exact (List.getElem?_eq_some_iff.1 hj).1
    have := hcell j hjl
    rw [hj] at this
    rw [← this]
    congr 1
    unfold Addr.add
    by_cases h1' : i * sz = 0 <;> by_cases h2' : j = 0 <;> simp [h1', h2', Nat.add_assoc]
   ·exact (hsp 0 h0).elim
  exact ⟨xs, _, hcs, some a, cap, by rw [hxl], by omega, hcap, hxs⟩
theorem reads_string {P : Program} {t : TypeId} (ht : P.underlying t = some .string) : Reads P t (fun _ cs (s : ByteArray) => cs = [.string s] ∧ s.size ≤ 140737488351232) := by
 intro H enc w base held fuel cs x h hn
 obtain ⟨s, h1, hx, h2⟩ := DataW.trod_string ht h
 refine ⟨s, h1, ?_⟩
 have := hn s.data.toList.length (by rw [hx]; simp [DataW.weights])
 simpa [reachBytes] using this
theorem reads_int {P : Program} {t : TypeId} {k : IntKind} (ht : P.underlying t = some (.int k)) : Reads P t (fun _ cs (n : Int) => cs = [.int k n] ∧ (Lit.int k n).wf = true) := by
 intro H enc w base held fuel cs x h _
 obtain ⟨s, h1, _, h2⟩ := DataW.trod_int ht h
 exact ⟨s, h1, h2⟩
theorem reads_field {α : Type} {P : Program} {f : Field} {R : World → List Value → α → Prop} {H : Type} {enc : TypeId × Value → H} {w : World} {base : Nat} {held : Bool} {t : TypeId} {fs : Array Field} {fuel : Nat} {cs : List Value} {x : DataW H × List MemPlace}
  (hs : P.underlying t = some (.struct fs)) (h : DataW.trod enc P w base (fun _ => true) held fuel t cs = some x) (hn : ∀ n ∈ x.1.weights P t, n ≤ reachBytes) (i : Nat) (hi : fs[i]? = some f) (hR : Reads P f.type R) :
  ∃ d, R w ((cs.drop f.offset).take (P.cellsOf f.type)) d := by
 obtain ⟨xs, n, _, hx, _, hl, hf⟩ := DataW.trod_struct hs h
 have h1 := hf i f hi
 have hil : i < fs.size := (Array.getElem?_eq_some_iff.1 hi).1
 have hxi : xs[i]? = some (xs[i]'(by omega)) := List.getElem?_eq_getElem (by omega)
 rw [hxi] at h1
 refine hR H enc w base held n _ _ h1 fun k hk => hn k ?_
 rw [hx]
 simp only [DataW.weights, hs]
 refine DataW.weights_mem_each (j := i) (t := f.type) (d := (xs[i]'(by omega)).1) ?_ (by simp [hxi]) k hk
 have : fs.toList[i]? = some f := by simpa using hi
 simp [this]
theorem reads_len {P : Program} {H : Type} {enc : TypeId × Value → H} {w : World} {base : Nat} {held : Bool} {t : TypeId} {fs : Array Field} {fuel : Nat} {cs : List Value} {x : DataW H × List MemPlace}
  (hs : P.underlying t = some (.struct fs)) (h : DataW.trod enc P w base (fun _ => true) held fuel t cs = some x) : cs.length = P.cellsOf t := by
 obtain ⟨_, _, _, _, hl, _, _⟩ := DataW.trod_struct hs h
 exact hl
structure V where
 k : Int
 n : Int
 s : ByteArray
def V.ok (x : V) : Prop := (Lit.int .i8 x.k).wf = true ∧ (Lit.int .i64 x.n).wf = true ∧ x.s.size ≤ 140737488351232
def V.cells (x : V) : List Value := [.int .i8 x.k, .int .i64 x.n, .string x.s]
def V.val (x : V) : Value := .agg #[.int .i8 x.k, .int .i64 x.n, .string x.s]
def RV (_ : World) (cs : List Value) (x : V) : Prop := cs = x.cells ∧ x.ok
theorem RV.stays : Stays RV := fun _ _ _ _ _ h => h
abbrev ValsA : World → Value → List V → Prop := SlRep 3 4398046511104 RV
abbrev Vals : World → Value → List V → Prop := SlRep 3 9223372036854775807 RV
theorem ValsA.vals {w : World} {v : Value} {xs : List V} (h : ValsA w v xs) : Vals w v xs := h.more (by omega)
theorem reads_V {P : Program} {t : TypeId} {f0 f1 f2 : Field} (hs : P.underlying t = some (.struct #[f0, f1, f2])) (hC : P.cellsOf t = 3) (h0 : P.underlying f0.type = some (.int .i8)) (h1 : P.underlying f1.type = some (.int .i64)) (h2 : P.underlying f2.type = some .string)
  (o0 : f0.offset = 0) (o1 : f1.offset = 1) (o2 : f2.offset = 2) (c0 : P.cellsOf f0.type = 1) (c1 : P.cellsOf f1.type = 1) (c2 : P.cellsOf f2.type = 1) : Reads P t RV := by
 intro H enc w base held fuel cs x h hn
 have hl := (reads_len hs h).trans hC
 obtain ⟨k, e0, w0⟩ := reads_field hs h hn 0 rfl (reads_int h0)
 obtain ⟨n, e1, w1⟩ := reads_field hs h hn 1 rfl (reads_int h1)
 obtain ⟨s, e2, w2⟩ := reads_field hs h hn 2 rfl (reads_string h2)
 match cs, hl with
 | [a, b, c], _ =>
  simp [o0, o1, o2, c0, c1, c2] at e0 e1 e2
  exact ⟨⟨k, n, s⟩, by rw [e0, e1, e2]; rfl, w0, w1, w2⟩
structure Fc where
 p : ByteArray
 a : List V
def RF (w : World) (cs : List Value) (x : Fc) : Prop := ∃ v, cs = [.string x.p, v] ∧ x.p.size ≤ 140737488351232 ∧ ValsA w v x.a
theorem RF.stays : Stays RF := fun _ _ _ _ hf ⟨v, h1, h2, h3⟩ => ⟨v, h1, h2, h3.fut RV.stays hf⟩
abbrev Facs : World → Value → List Fc → Prop := SlRep 2 3518437208883 RF
theorem reads_arg {α : Type} {P : Program} {t : TypeId} {R : World → List Value → α → Prop} (hR : Reads P t R) {H : Type} {enc : TypeId × Value → H} {w : World} {v : Value} {d : DataW H} {ps : List MemPlace} (h : DataW.Trod enc P w 0 (fun _ => true) true t v d ps) (hs : ∀ n ∈ d.weights P t, n ≤ reachBytes) :
  ∃ x, R w v.cells.toList x := by
 obtain ⟨n, hn⟩ := h
 exact hR H enc w 0 true n _ _ hn hs
theorem arg_slice {α : Type} {P : Program} {sz M : Nat} {R : World → List Value → α → Prop} {w : World} {r : Reach} {b : Nat} {t e : TypeId} {v : Value} {xs : List α} (h : SlR sz M R w v.cells.toList xs) (ht : P.underlying t = some (.slice e)) (hv : Value.okWide P w r b t v) : SlRep sz M R w v xs := by
 obtain ⟨a, len, cap, rfl⟩ := okWide_slice ht hv
 obtain ⟨u, h1, h2⟩ := h
 simp [Value.cells] at h1
 rw [h1]; exact h2
def RI (_ : World) (cs : List Value) (n : Int) : Prop := cs = [.int .i64 n]
theorem RI.stays : Stays RI := fun _ _ _ _ _ h => h
def BlkF (w : World) (g : Nat) (t : TypeId) (N : Nat) (f : Nat → Value) : Prop :=
 ∃ arr : Array Value, w.heap[g]? = some (.cells arr t (0, 0)) ∧ arr.size = N ∧ ∀ j, j < N → arr[j]? = some (f j)
section
variable {w w' : World} {g N : Nat} {t : TypeId} {f : Nat → Value}
theorem BlkF.lt (h : BlkF w g t N f) : g < w.heap.size := by
 obtain ⟨arr, h1, _⟩ := h
 rcases Nat.lt_or_ge g w.heap.size with h' | h'
 ·exact h'
 ·rw [Array.getElem?_eq_none h'] at h1; cases h1
theorem BlkF.cell (h : BlkF w g t N f) {j : Nat} (hj : j < N) : w.cell? ⟨g, j, none⟩ = some (f j) := by
 obtain ⟨arr, h1, h2, h3⟩ := h
 simp [World.cell?, h1, h3 j hj]
theorem BlkF.free (h : BlkF w g t N f) (j : Nat) : w.frozen? ⟨g, j, none⟩ = false := by
 obtain ⟨arr, h1, _⟩ := h
 simp [World.frozen?, h1]
theorem BlkF.fut (h : BlkF w g t N f) (hf : Fut w w') : BlkF w' g t N f := by
 obtain ⟨arr, h1, h2⟩ := h
 exact ⟨arr, hf.block h1, h2⟩
theorem BlkF.congr {f' : Nat → Value} (h : BlkF w g t N f) (he : ∀ j, j < N → f j = f' j) : BlkF w g t N f' := by
 obtain ⟨arr, h1, h2, h3⟩ := h
 exact ⟨arr, h1, h2, fun j hj => by rw [h3 j hj, he j hj]⟩
theorem BlkF.set (h : BlkF w g t N f) (i : Nat) (v : Value) : BlkF (w.setCell ⟨g, i, none⟩ v) g t N (fun j => if j = i then v else f j) := by
 obtain ⟨arr, h1, h2, h3⟩ := h
 refine ⟨arr.setIfInBounds i v, ?_, by simp [h2], fun j hj => ?_⟩
 ·simp [World.setCell, Array.getElem?_modify, h1]
 ·by_cases hij : j = i
  ·subst hij; simp [h2, hj]
  ·rw [Array.getElem?_setIfInBounds_ne (Ne.symm hij), h3 j hj]; simp [hij]
theorem BlkF.far (h : BlkF w g t N f) {p : Addr} (hp : g ≠ p.block) (v : Value) : BlkF (w.setCell p v) g t N f := by
 obtain ⟨arr, h1, h2⟩ := h
 exact ⟨arr, (Below.heap_setCell w p v g hp).trans h1, h2⟩
theorem BlkF.alloc (h : BlkF w g t N f) (o : Obj) : BlkF (w.alloc o) g t N f := h.fut (Fut.alloc w o)
theorem BlkF.drew (h : BlkF w g t N f) : BlkF w.drew g t N f := h
theorem BlkF.new (w : World) (t : TypeId) (arr : Array Value) : BlkF (w.alloc (.cells arr t)) w.heap.size t arr.size (fun j => arr.getD j undef) :=
 ⟨arr, heap_alloc_new w _, rfl, fun j hj => by simp [hj]⟩
end
def flat (xs : List V) (j : Nat) : Value := ((xs[j / 3]?).map fun x => x.cells.getD (j % 3) undef).getD undef
theorem vals_of_blk {w : World} {g t N cap : Nat} {xs : List V} {f : Nat → Value} (h : BlkF w g t N f) (hN : xs.length * 3 ≤ N) (hf : ∀ j, j < xs.length * 3 → f j = flat xs j) (hc : xs.length ≤ cap) (hm : cap ≤ 9223372036854775807) (hok : ∀ x ∈ xs, x.ok) :
  Vals w (.slice (some ⟨g, 0, none⟩) xs.length cap) xs := by
 refine ⟨_, _, rfl, hc, hm, fun i x hx => ⟨g, 0, x.cells, rfl, rfl, fun j c hj => ?_, rfl, hok x (List.mem_of_getElem? hx)⟩⟩
 have hil : i < xs.length := (List.getElem?_eq_some_iff.1 hx).1
 have hjl : j < 3 := (List.getElem?_eq_some_iff.1 hj).1
 rw [Nat.zero_add, h.cell (by omega), hf _ (by omega)]
 unfold flat
 rw [show (i * 3 + j) / 3 = i by omega, show (i * 3 + j) % 3 = j by omega, hx]
 simp [List.getD, hj]
theorem run_make_rowN {P : Program} (t e : TypeId) (i : TypeInfo) (z : Value) (ht : P.underlying t = some (.slice e)) (hi : P.info? e = some i) (hz : i.zero = some z)
  (kl kc : IntKind) (n c : Nat) (hnc : n ≤ c) (hbytes : i.bytes * c ≤ 281474976710656) (h63 : c ≤ 9223372036854775807) (w : World) :
  (Instr.makeSlice t (.int kl (n : Int)) (.int kc (c : Int))).run P w = .ok (.slice (some ⟨w.heap.size, 0, none⟩) n c) (w.alloc (.cells (madeCells z.cells (c * i.size)) e)) := by
 have hb : (i.bytes : Int) * (c : Int) ≤ 281474976710656 := by
  have h : ((i.bytes * c : Nat) : Int) ≤ 281474976710656 := by omega
  rwa [Int.natCast_mul] at h
 have hr := run_make (P := P) w t e i z ht hi hz kl kc n c (by omega) (by omega) hb (by omega)
 simp only [Int.toNat_natCast] at hr
 exact hr
end Go.Proofs.YtdjffkkbjbiihaaGreatDoor
namespace Go.Proofs.YtdjffkkbjbiihaaGreatDoor
open Go.RowKit
def OwnL {α : Type} (sz B : Nat) (e : TypeId) (R : World → List Value → α → Prop) (w : World) (v : Value) (xs : List α) : Prop :=
 ∃ css : List (List Value), css.length = xs.length ∧ (∀ (i : Nat) (cs : List Value) (x : α), css[i]? = some cs → xs[i]? = some x → cs.length = sz ∧ R w cs x) ∧ w.ownsRow B e sz v xs.length css.flatten
section
variable {α : Type} {sz B M : Nat} {e : TypeId} {R : World → List Value → α → Prop} {w w' : World} {v u : Value} {xs ys : List α}
theorem OwnL.nil : OwnL sz B e R w (.slice none 0 0) ([] : List α) := ⟨[], rfl, fun i cs x h => by simp at h, World.ownsRow_nil w B e sz⟩
theorem OwnL.fut (hR : Stays R) (h : OwnL sz B e R w v xs) (hf : Fut w w') : OwnL sz B e R w' v xs := by
 obtain ⟨css, h1, h2, h3, h4⟩ := h
 refine ⟨css, h1, fun i cs x hi hx => ⟨(h2 i cs x hi hx).1, hR _ _ _ _ hf (h2 i cs x hi hx).2⟩, h3, ?_⟩
 rcases h4 with h4 | ⟨g, cap, cur, a1, a2, a3, a4⟩
 ·exact .inl h4
 ·exact .inr ⟨g, cap, cur, a1, a2, hf.block a3, a4⟩
theorem flatten_at {css : List (List Value)} (hs : ∀ (i : Nat) (cs : List Value), css[i]? = some cs → cs.length = sz) : ∀ (i j : Nat) (cs : List Value) (c : Value), css[i]? = some cs → cs[j]? = some c → css.flatten[i * sz + j]? = some c := by
 induction css with
 | nil => intro i j cs c h; simp at h
 | cons a r ih =>
  intro i j cs c h hj
  have ha := hs 0 a rfl
  cases i with
  | zero =>
   simp only [List.getElem?_cons_zero, Option.some.injEq] at h
   subst h
   rw [Nat.zero_mul, Nat.zero_add, List.flatten_cons, List.getElem?_append_left (List.getElem?_eq_some_iff.1 hj).1]
   exact hj
  | succ i =>
   rw [List.flatten_cons, List.getElem?_append_right (by rw [ha, Nat.add_mul]; omega), ha, show (i + 1) * sz + j - sz = i * sz + j by rw [Nat.add_mul]; omega]
   exact ih (fun k cs hk => hs (k + 1) cs (by simpa using hk)) i j cs c (by simpa using h) hj
theorem flatten_len {css : List (List Value)} (hs : ∀ (i : Nat) (cs : List Value), css[i]? = some cs → cs.length = sz) : css.flatten.length = css.length * sz := by
 induction css with
 | nil => simp
 | cons a r ih =>
  rw [List.flatten_cons, List.length_append, hs 0 a rfl, ih fun k cs hk => hs (k + 1) cs (by simpa using hk), List.length_cons, Nat.add_mul]; omega
theorem OwnL.rep (h : OwnL sz B e R w v xs) : SlRep sz maxLen R w v xs := by
 obtain ⟨css, h1, h2, h3, h4⟩ := h
 rcases h4 with ⟨rfl, h5⟩ | ⟨g, cap, cur, rfl, a2, a3, a4, a5, a6, a7⟩
 ·have : xs = [] := List.length_eq_zero_iff.1 h5
  subst this
  exact ⟨none, 0, rfl, Nat.le_refl _, Nat.zero_le _, fun i x hx => by simp at hx⟩
 ·refine ⟨_, cap, rfl, a4, a5, fun i x hx => ?_⟩
  have hil : i < xs.length := (List.getElem?_eq_some_iff.1 hx).1
  have hc : css[i]? = some (css[i]'(by omega)) := List.getElem?_eq_getElem (by omega)
  obtain ⟨b1, b2⟩ := h2 i _ x hc hx
  refine ⟨g, 0, _, rfl, b1, fun j c hj => ?_, b2⟩
  have hs : ∀ (i : Nat) (cs : List Value), css[i]? = some cs → cs.length = sz := fun i cs hi => by
   have hl : i < css.length := (List.getElem?_eq_some_iff.1 hi).1
   exact (h2 i cs _ hi (List.getElem?_eq_getElem (by omega))).1
  have hf := flatten_at hs i j _ c hc hj
  have hfl : i * sz + j < xs.length * sz := by
   have := (List.getElem?_eq_some_iff.1 hf).1
   rwa [flatten_len hs, h1] at this
  rw [← a7, List.getElem?_take, if_pos hfl, Array.getElem?_toList] at hf
  rw [Nat.zero_add]
  simp [World.cell?, a3, hf]
theorem OwnL.block (h : OwnL sz B e R w v xs) : ∀ k, v.ownBlock = some k → B ≤ k ∧ k < w.heap.size := by
 obtain ⟨css, h1, h2, h3⟩ := h
 exact h3.lt
theorem Fut.grown {w0 : World} (h : Fut w0 w) {row : Option Nat} (hg : w.grownBy w' row) (hrow : ∀ k, row = some k → w0.heap.size ≤ k) : Fut w0 w' :=
 ⟨hg.os.trans h.os, hg.tape.trans h.tape, hg.output.trans h.output, Nat.le_trans h.size hg.size, fun k hk => (hg.block k (Nat.lt_of_lt_of_le hk h.size) (fun e => absurd (hrow k e.symm) (by omega))).trans (Below.block h k hk)⟩
theorem run_append_none {P : Program} (t ty : TypeId) (i : TypeInfo) (ht : P.underlying t = some (.slice e)) (hi : P.info? e = some i) (A : Option Addr) (n cap c : Nat) (hn : n ≤ cap) (w : World) :
  (Builtin.append_ #[t, t] ty #[.slice A n cap, .slice none 0 c]).run P w = .ok (.slice A n cap) w := by
 cases A <;> simp [Builtin.append_, run_underlying ht, sizeOf, typeInfo, hi, Builtin.lenOf, run_firstCells_none, hn, storeCells]
end
abbrev OwnV (B : Nat) (e : TypeId) : World → Value → List V → Prop := OwnL 3 B e RV
theorem RV.one : ∀ (w : World) cs x, RV w cs x → ∀ u ∈ cs, u.oneCell' = true := fun w cs x h u hu => by
 obtain ⟨rfl, _⟩ := h
 simp [V.cells] at hu
 rcases hu with rfl | rfl | rfl <;> rfl
theorem OwnV.vals {B : Nat} {e : TypeId} {w : World} {v : Value} {xs : List V} (h : OwnV B e w v xs) : Vals w v xs := h.rep.more (by unfold maxLen; omega)
def RT (w : World) (cs : List Value) (xs : List V) : Prop := ∃ v, cs = [v] ∧ Vals w v xs
theorem RT.stays : Stays RT := fun _ _ _ _ hf ⟨v, h1, h2⟩ => ⟨v, h1, h2.fut RV.stays hf⟩
def RG (w : World) (cs : List Value) (x : Fc) : Prop := ∃ v, cs = [.string x.p, v] ∧ x.p.size ≤ 140737488351232 ∧ Vals w v x.a
theorem RG.stays : Stays RG := fun _ _ _ _ hf ⟨v, h1, h2, h3⟩ => ⟨v, h1, h2, h3.fut RV.stays hf⟩
abbrev FacsG : World → Value → List Fc → Prop := SlRep 2 9223372036854775807 RG
theorem Facs.g {w : World} {v : Value} {fs : List Fc} (h : Facs w v fs) : FacsG w v fs :=
 (SlRep.imp h fun cs x ⟨v, h1, h2, h3⟩ => (⟨v, h1, h2, ValsA.vals h3⟩ : RG w cs x)).more (by omega)
theorem FacsG.size {w : World} {v : Value} {fs : List Fc} (h : FacsG w v fs) : ∀ f ∈ fs, f.p.size ≤ 140737488351232 := by
 obtain ⟨A, cap, _, _, _, h3⟩ := h
 intro f hf
 obtain ⟨i, hi⟩ := List.getElem?_of_mem hf
 obtain ⟨_, _, _, _, _, _, _, _, hp, _⟩ := h3 i f hi
 exact hp
section
variable {α : Type} {sz B M : Nat} {e ei : TypeId} {R R' : World → List Value → α → Prop} {w w' : World} {v u : Value} {xs ys : List α}
theorem OwnL.typed (h : OwnL sz B e R w v xs) : ∀ k, v.ownBlock = some k → ∃ arr, w.heap[k]? = some (.cells arr e (0, 0)) := by
 intro k hk
 obtain ⟨css, h1, h2, h3, h4⟩ := h
 rcases h4 with ⟨rfl, _⟩ | ⟨g, cap, cur, rfl, a2, a3, _⟩
 ·cases hk
 ·simp only [Value.ownBlock, Option.some.injEq] at hk
  subst hk
  exact ⟨cur, a3⟩
theorem OwnL.imp (h : OwnL sz B e R w v xs) (hR : ∀ cs x, R w cs x → R' w cs x) : OwnL sz B e R' w v xs := by
 obtain ⟨css, h1, h2, h3⟩ := h
 exact ⟨css, h1, fun i cs x hi hx => ⟨(h2 i cs x hi hx).1, hR _ _ (h2 i cs x hi hx).2⟩, h3⟩
theorem OwnL.base {B' : Nat} (h : OwnL sz B e R w v xs) (hB : B' ≤ B) : OwnL sz B' e R w v xs := by
 obtain ⟨css, h1, h2, h3, h4⟩ := h
 refine ⟨css, h1, h2, h3, ?_⟩
 rcases h4 with h4 | ⟨g, cap, cur, a1, a2, a3⟩
 ·exact .inl h4
 ·exact .inr ⟨g, cap, cur, a1, Nat.le_trans hB a2, a3⟩
def Keeps (e : TypeId) (R : World → List Value → α → Prop) : Prop :=
 ∀ (w w' : World) (row : Option Nat) (cs : List Value) (x : α), R w cs x → w.grownBy w' row → (∀ k, row = some k → ∃ arr, w.heap[k]? = some (.cells arr e (0, 0))) → R w' cs x
theorem OwnL.kept {row : Option Nat} (h : OwnL sz B ei R w v xs) (hR : ∀ cs x, R w cs x → R w' cs x) (hg : w.grownBy w' row) (ht : ∀ k, row = some k → ∃ arr, w.heap[k]? = some (.cells arr e (0, 0))) (hne : ei ≠ e) : OwnL sz B ei R w' v xs := by
 have hty := h.typed
 obtain ⟨css, h1, h2, h3⟩ := h
 refine ⟨css, h1, fun i cs x hi hx => ⟨(h2 i cs x hi hx).1, hR _ _ (h2 i cs x hi hx).2⟩, h3.kept hg ?_⟩
 cases hv : v.ownBlock with
 | none => exact .inl rfl
 | some k =>
  right
  intro hr
  obtain ⟨arr, h5⟩ := hty k hv
  obtain ⟨arr', h6⟩ := ht k hr.symm
  rw [h5] at h6
  injection h6 with h6
  injection h6 with _ h7
  exact hne h7
end
def RTo (B : Nat) (ev : TypeId) (w : World) (cs : List Value) (xs : List V) : Prop := ∃ v, cs = [v] ∧ OwnV B ev w v xs
def RGo (B : Nat) (ev : TypeId) (w : World) (cs : List Value) (x : Fc) : Prop := ∃ v, cs = [.string x.p, v] ∧ x.p.size ≤ 140737488351232 ∧ OwnV B ev w v x.a
section
variable {B M : Nat} {e ev : TypeId} {w w' : World} {v u : Value}
theorem RTo.stays : Stays (RTo B ev) := fun _ _ _ _ hf ⟨v, h1, h2⟩ => ⟨v, h1, h2.fut RV.stays hf⟩
theorem RGo.stays : Stays (RGo B ev) := fun _ _ _ _ hf ⟨v, h1, h2, h3⟩ => ⟨v, h1, h2, h3.fut RV.stays hf⟩
theorem RTo.keeps (hne : ev ≠ e) : Keeps e (RTo B ev) := fun w w' row cs x ⟨v, h1, h2⟩ hg ht => ⟨v, h1, h2.kept (fun _ _ h => h) hg ht hne⟩
theorem RGo.keeps (hne : ev ≠ e) : Keeps e (RGo B ev) := fun w w' row cs x ⟨v, h1, h2, h3⟩ hg ht => ⟨v, h1, h2, h3.kept (fun _ _ h => h) hg ht hne⟩
theorem RTo.one : ∀ (w : World) cs x, RTo B ev w cs x → ∀ u ∈ cs, u.oneCell' = true := fun w cs x ⟨v, h1, h2⟩ u hu => by
 obtain ⟨A, cap, rfl, _⟩ := h2.vals.form
 subst h1
 simp only [List.mem_singleton] at hu
 subst hu; rfl
theorem RGo.one : ∀ (w : World) cs x, RGo B ev w cs x → ∀ u ∈ cs, u.oneCell' = true := fun w cs x ⟨v, h1, _, h2⟩ u hu => by
 obtain ⟨A, cap, rfl, _⟩ := h2.vals.form
 subst h1
 simp only [List.mem_cons, List.not_mem_nil, or_false] at hu
 rcases hu with rfl | rfl <;> rfl
theorem RT.one : ∀ (w : World) cs x, RT w cs x → ∀ u ∈ cs, u.oneCell' = true := fun w cs x ⟨v, h1, h2⟩ u hu => by
 obtain ⟨A, cap, rfl, _⟩ := h2.form
 subst h1
 simp only [List.mem_singleton] at hu
 subst hu; rfl
theorem RG.one : ∀ (w : World) cs x, RG w cs x → ∀ u ∈ cs, u.oneCell' = true := fun w cs x ⟨v, h1, _, h2⟩ u hu => by
 obtain ⟨A, cap, rfl, _⟩ := h2.form
 subst h1
 simp only [List.mem_cons, List.not_mem_nil, or_false] at hu
 rcases hu with rfl | rfl <;> rfl
end
def cellsAt (css : List (List Value)) (z : List Value) (sz j : Nat) : Value := ((css[j / sz]?).getD z).getD (j % sz) undef
theorem cellsAt_nil (z : List Value) (sz j : Nat) : cellsAt [] z sz j = z.getD (j % sz) undef := rfl
theorem cellsAt_get {css : List (List Value)} {z : List Value} {sz i j : Nat} {cs : List Value} {c : Value} (h : css[i]? = some cs) (hj : cs[j]? = some c) (hsz : j < sz) : cellsAt css z sz (i * sz + j) = c := by
 unfold cellsAt
 rw [Nat.mul_comm, Nat.mul_add_div (by omega), Nat.div_eq_of_lt hsz, Nat.add_zero, h, Nat.mul_add_mod, Nat.mod_eq_of_lt hsz]
 simp [List.getD, hj]
def TwinE {α : Type} (sz : Nat) (e : TypeId) (z : List Value) (RE : Nat → World → List Value → α → Prop) (RM : World → List Value → Prop) (B : Nat) (w : World) (v : Value) (xs : List α) : Prop :=
 ∃ (g : Nat) (css : List (List Value)), B ≤ g ∧ v = .slice (some ⟨g, 0, none⟩) xs.length (xs.length + 1) ∧ css.length = xs.length + 1 ∧ BlkF w g e ((xs.length + 1) * sz) (cellsAt css z sz) ∧
  (∀ (i : Nat) (x : α) (cs : List Value), xs[i]? = some x → css[i]? = some cs → cs.length = sz ∧ RE (g + 1) w cs x) ∧ ∀ cs, css[xs.length]? = some cs → cs.length = sz ∧ RM w cs
theorem TwinE.fut {α : Type} {sz : Nat} {e : TypeId} {z : List Value} {RE : Nat → World → List Value → α → Prop} {RM : World → List Value → Prop} {B : Nat} {w w' : World} {v : Value} {xs : List α}
  (hE : ∀ g, Stays (RE g)) (hM : ∀ w w' cs, Fut w w' → RM w cs → RM w' cs) (h : TwinE sz e z RE RM B w v xs) (hf : Fut w w') : TwinE sz e z RE RM B w' v xs := by
 obtain ⟨g, css, h1, h2, h3, h4, h5, h6⟩ := h
 exact ⟨g, css, h1, h2, h3, h4.fut hf, fun i x cs hx hc => ⟨(h5 i x cs hx hc).1, hE _ _ _ _ _ hf (h5 i x cs hx hc).2⟩, fun cs hc => ⟨(h6 cs hc).1, hM _ _ _ hf (h6 cs hc).2⟩⟩
theorem TwinE.rep {α : Type} {sz M : Nat} {e : TypeId} {z : List Value} {RE : Nat → World → List Value → α → Prop} {RM : World → List Value → Prop} {R : World → List Value → α → Prop} {B : Nat} {w : World} {v : Value} {xs : List α}
  (h : TwinE sz e z RE RM B w v xs) (hR : ∀ g cs x, x ∈ xs → RE g w cs x → R w cs x) (hM : xs.length + 1 ≤ M) : SlRep sz M R w v xs := by
 obtain ⟨g, css, h1, rfl, h3, h4, h5, h6⟩ := h
 refine ⟨_, _, rfl, Nat.le_succ _, hM, fun i x hx => ?_⟩
 have hil : i < xs.length := (List.getElem?_eq_some_iff.1 hx).1
 have hc : css[i]? = some (css[i]'(by omega)) := List.getElem?_eq_getElem (by omega)
 obtain ⟨hl, hre⟩ := h5 i x _ hx hc
 refine ⟨g, 0, _, rfl, hl, fun j c hj => ?_, hR _ _ _ (List.mem_of_getElem? hx) hre⟩
 have hjl : j < sz := by rw [← hl]; exact (List.getElem?_eq_some_iff.1 hj).1
 have hlt : i * sz + j < (xs.length + 1) * sz := by
  have : (i + 1) * sz ≤ (xs.length + 1) * sz := Nat.mul_le_mul_right _ (by omega)
  rw [Nat.add_mul] at this; omega
 rw [Nat.zero_add, h4.cell hlt, cellsAt_get hc hj hjl]
theorem SlRep.take {α : Type} {sz M : Nat} {R : World → List Value → α → Prop} {w : World} {A : Option Addr} {n cap : Nat} {xs : List α} (h : SlRep sz M R w (.slice A n cap) xs) (k : Nat) (hk : k ≤ xs.length) : SlRep sz M R w (.slice A k cap) (xs.take k) := by
 obtain ⟨A', cap', hv, h1, h2, h3⟩ := h
 injection hv with e1 e2 e3
 subst e1; subst e3
 refine ⟨A, cap, by rw [List.length_take, Nat.min_eq_left hk], by rw [List.length_take]; omega, h2, fun i x hx => h3 i x ?_⟩
 rw [List.getElem?_take] at hx
 split at hx
 ·exact hx
 ·cases hx
theorem SlRep.drop {α : Type} {sz M : Nat} {R : World → List Value → α → Prop} {w : World} {b off n cap : Nat} {xs : List α} (h : SlRep sz M R w (.slice (some ⟨b, off, none⟩) n cap) xs) (k : Nat) (hk : k ≤ xs.length) :
  SlRep sz M R w (.slice (some ⟨b, off + k * sz, none⟩) (xs.length - k) (cap - k)) (xs.drop k) := by
 obtain ⟨A', cap', hv, h1, h2, h3⟩ := h
 injection hv with e1 e2 e3
 subst e1; subst e3
 refine ⟨_, _, by rw [List.length_drop], by rw [List.length_drop]; omega, by omega, fun i x hx => ?_⟩
 rw [List.getElem?_drop] at hx
 obtain ⟨b', off', cs, hA, hl, hc, hr⟩ := h3 (k + i) x hx
 injection hA with hA
 injection hA with e4 e5
 subst e4; subst e5
 refine ⟨_, _, cs, rfl, hl, fun j c hj => ?_, hr⟩
 have := hc j c hj
 rwa [show off + k * sz + (i * sz + j) = off + ((k + i) * sz + j) by rw [Nat.add_mul]; omega]
end Go.Proofs.YtdjffkkbjbiihaaGreatDoor
namespace Go.Proofs.YtdjffkkbjbiihaaGreatDoor
open Go.RowKit Go.WideMaps Go.Maps
open Go.ChangeMaps (setBlock heap_setBlock_same heap_setBlock_other)
abbrev Rw := List Int
def Rw.ok (x : Rw) : Prop := x.length = 24 ∧ ∀ a ∈ x, (Lit.int .i32 a).wf = true
def Rw.cells (x : Rw) : List Value := x.map (Value.int .i32)
def Rw.val (x : Rw) : Value := .agg (Rw.cells x).toArray
def RR (_ : World) (cs : List Value) (x : Rw) : Prop := cs = Rw.cells x ∧ Rw.ok x
theorem RR.stays : Stays RR := fun _ _ _ _ _ h => h
theorem RR.one : ∀ (w : World) cs x, RR w cs x → ∀ u ∈ cs, u.oneCell' = true := fun w cs x h u hu => by
 obtain ⟨rfl, _⟩ := h
 simp only [Rw.cells, List.mem_map] at hu
 obtain ⟨a, _, rfl⟩ := hu
 rfl
theorem Rw.cells_len {x : Rw} (h : Rw.ok x) : (Rw.cells x).length = 24 := by simp [Rw.cells, h.1]
theorem ints_inj : ∀ {x y : List Int}, x.map (Value.int .i32) = y.map (Value.int .i32) → x = y
 | [], [], _ => rfl
 | [], _ :: _, h => by simp at h
 | _ :: _, [], h => by simp at h
 | a :: x, b :: y, h => by
  simp only [List.map_cons, List.cons.injEq, Value.int.injEq, true_and] at h
  rw [h.1, ints_inj h.2]
theorem Rw.val_inj {x y : Rw} (h : Rw.val x = Rw.val y) : x = y := by
 unfold Rw.val Rw.cells at h
 injection h with h
 exact ints_inj (congrArg Array.toList h)
theorem mapM_all {β : Type} {f : Nat → Option β} {g : Nat → β} : ∀ L : List Nat, (∀ i ∈ L, f i = some (g i)) → L.mapM f = some (L.map g)
 | [], _ => rfl
 | i :: L, h => by
  rw [List.mapM_cons, h i (by simp), mapM_all L fun j hj => h j (by simp [hj])]
  rfl
section
variable {P : Program} {k e : TypeId}
theorem keyOf_row (A : ArrKey P k e 24) (he : P.underlying e = some (.int .i32)) (hsz : ∃ m, P.types.size = m + 1) {x : Rw} (hx : Rw.ok x) : ∃ l, keyOf P k (Rw.val x) = some l := by
 have hkt := A.keyType hsz
 obtain ⟨m0, hm0⟩ := hsz
 have hl := Rw.cells_len hx
 refine ⟨.string (keyBytes ((List.range 24).map fun i => [Lit.int .i32 (x.getD i 0)]).flatten), ?_⟩
 unfold keyOf Rw.val
 simp only [A.hu]
 rw [if_pos (by simp [hkt, Value.formed, A.hu, A.size, hl]), hm0]
 unfold Program.keyLits
 simp only [A.hu, Value.cells]
 rw [if_pos (by rw [A.size]; exact hl), mapM_all (g := fun i => [Lit.int .i32 (x.getD i 0)])]
 ·rfl
 ·intro i hi
  have hi24 : i < 24 := List.mem_range.1 hi
  have hix : i < x.length := by rw [hx.1]; exact hi24
  rw [A.one, Nat.mul_one]
  have h1 : ((Rw.cells x).drop i).take 1 = [.int .i32 (x.getD i 0)] := by
   rw [List.drop_eq_getElem_cons (by rw [hl]; exact hi24)]
   simp [Rw.cells, List.getD, hix]
  rw [h1]
  have hw : (Lit.int .i32 (x.getD i 0)).wf = true := hx.2 _ (by simp [List.getD, hix])
  simp only [Program.keyLits, he]
  rw [if_pos ⟨trivial, hw⟩]
theorem row_keyed (A : ArrKey P k e 24) : Keyed P k := Keyed.of_law A.law
def MapR (w : World) (b : Nat) (f : Rw → Option Int) : Prop :=
 ∃ es clock, w.heap[b]? = some (.map es clock) ∧ (∀ e ∈ es.toList, ∃ x v, Rw.ok x ∧ e.key = Rw.val x ∧ e.val = .int .i64 v ∧ f x = some v) ∧ (∀ x v, f x = some v → ∃ e ∈ es.toList, e.key = Rw.val x)
theorem MapR.new (w : World) : MapR (w.alloc (.map #[] 0)) w.heap.size (fun _ => none) :=
 ⟨#[], 0, heap_alloc_new w _, fun e he => by simp at he, fun x v h => by cases h⟩
theorem MapR.lt {w : World} {b : Nat} {f : Rw → Option Int} (h : MapR w b f) : b < w.heap.size := by
 obtain ⟨es, c, h1, _⟩ := h
 exact (Array.getElem?_eq_some_iff.1 h1).1
theorem MapR.kept {w w' : World} {b : Nat} {f : Rw → Option Int} (h : MapR w b f) (hs : w'.heap[b]? = w.heap[b]?) : MapR w' b f := by
 obtain ⟨es, c, h1, h2⟩ := h
 exact ⟨es, c, hs.trans h1, h2⟩
theorem MapR.find {w : World} {b : Nat} {f : Rw → Option Int} {es : Array MapEntry} (A : ArrKey P k e 24) (he : P.underlying e = some (.int .i32)) (hsz : ∃ m, P.types.size = m + 1)
  (h1 : ∀ e ∈ es.toList, ∃ x v, Rw.ok x ∧ e.key = Rw.val x ∧ e.val = .int .i64 v ∧ f x = some v) (h2 : ∀ x v, f x = some v → ∃ e ∈ es.toList, e.key = Rw.val x) {x : Rw} (hx : Rw.ok x) :
  (f x = none ∧ (Instr.findKey k (Rw.val x) es.toList).run P w = .ok none w) ∨ ∃ v j, f x = some v ∧ (Instr.findKey k (Rw.val x) es.toList).run P w = .ok (some (j, .int .i64 v)) w := by
 obtain ⟨lx, hlx⟩ := keyOf_row A he hsz hx
 rcases (row_keyed A).find w hlx es.toList (fun y hy => by
  obtain ⟨z, v, hz, hk, _⟩ := h1 y hy
  rw [hk]
  exact keyOf_row A he hsz hz) with ⟨h3, h4⟩ | ⟨j, y, h3, h4, h5⟩
 ·refine .inl ⟨?_, h3⟩
  cases hf : f x with
  | none => rfl
  | some v =>
   obtain ⟨y, hy, hk⟩ := h2 x v hf
   exact absurd hk (h4 y hy)
 ·obtain ⟨z, v, hz, hk, hv, hf⟩ := h1 y (List.mem_of_getElem? h4)
  have e1 : z = x := Rw.val_inj (hk.symm.trans h5)
  subst e1
  exact .inr ⟨v, j, hf, by rw [h3, hv]⟩
theorem MapR.lookup {w : World} {b : Nat} {f : Rw → Option Int} {t ev : TypeId} (h : MapR w b f) (A : ArrKey P k e 24) (he : P.underlying e = some (.int .i32)) (hsz : ∃ m, P.types.size = m + 1) (ht : P.underlying t = some (.map k ev))
  (hz : ∀ w, (zeroValue ev).run P w = .ok (.int .i64 0) w) {x : Rw} (hx : Rw.ok x) :
  (Instr.lookup t (.map (some b)) (Rw.val x) true).run P w = .ok (.tuple #[.int .i64 ((f x).getD 0), .bool (f x).isSome]) w := by
 obtain ⟨es, c, hb, h1, h2⟩ := h
 obtain ⟨lx, hlx⟩ := keyOf_row A he hsz hx
 rcases MapR.find (w := w) (b := b) A he hsz h1 h2 hx with ⟨h3, h4⟩ | ⟨v, j, h3, h4⟩
 ·simp [Instr.lookup, run_underlying ht, MapKept.run_getObj_map hb, (row_keyed A).check w _ hlx, h4, h3, hz, Result.andThen]
 ·simp [Instr.lookup, run_underlying ht, MapKept.run_getObj_map hb, (row_keyed A).check w _ hlx, h4, h3, Result.andThen]
theorem MapR.push {w : World} {b : Nat} {f : Rw → Option Int} {t ev : TypeId} (h : MapR w b f) (A : ArrKey P k e 24) (he : P.underlying e = some (.int .i32)) (hsz : ∃ m, P.types.size = m + 1) (ht : P.underlying t = some (.map k ev))
  {x : Rw} (hx : Rw.ok x) (hn : f x = none) (v : Int) :
  ∃ w', (Instr.mapUpdate t (.map (some b)) (Rw.val x) (.int .i64 v)).run P w = .ok () w' ∧ MapR w' b (fun y => if y = x then some v else f y) ∧ w.grownBy w' (some b) := by
 obtain ⟨es, c, hb, h1, h2⟩ := h
 obtain ⟨lx, hlx⟩ := keyOf_row A he hsz hx
 rcases MapR.find (w := w) (b := b) A he hsz h1 h2 hx with ⟨_, h4⟩ | ⟨v, j, h3, h4⟩
 ·refine ⟨setBlock w b (.map (es.push { key := Rw.val x, val := .int .i64 v, born := c }) (c + 1)), ?_, ⟨_, _, heap_setBlock_same hb _, ?_, ?_⟩, ⟨rfl, rfl, rfl, by simp [setBlock], fun i _ hi => heap_setBlock_other hb _ (fun e => hi (by rw [e]))⟩⟩
  ·simp [Instr.mapUpdate, run_underlying ht, MapKept.run_getObj_map hb, (row_keyed A).check w _ hlx, h4, MapKept.run_setObj_map _ hb, Result.andThen, setBlock]
  ·intro e he
   simp only [Array.toList_push, List.mem_append, List.mem_singleton] at he
   rcases he with he | rfl
   ·obtain ⟨y, u, hy, hk, hv, hf⟩ := h1 e he
    exact ⟨y, u, hy, hk, hv, by show (if y = x then some v else f y) = some u; rw [if_neg (fun e => by subst e; rw [hn] at hf; cases hf)]; exact hf⟩
   ·exact ⟨x, v, hx, rfl, rfl, if_pos rfl⟩
  ·intro y u hf
   replace hf : (if y = x then some v else f y) = some u := hf
   by_cases hyx : y = x
   ·subst hyx
    exact ⟨{ key := Rw.val y, val := .int .i64 v, born := c }, by rw [Array.toList_push]; exact List.mem_append_right _ (by simp), rfl⟩
   ·rw [if_neg hyx] at hf
    obtain ⟨e, he, hk⟩ := h2 y u hf
    exact ⟨e, by simp [he], hk⟩
 ·rw [hn] at h3; cases h3
theorem MapR.clear {w : World} {b : Nat} {f : Rw → Option Int} {t ev : TypeId} (h : MapR w b f) (ht : P.underlying t = some (.map k ev)) (ty : TypeId) :
  ∃ w', (Builtin.clear_ #[t] ty #[.map (some b)]).run P w = .ok (.tuple #[]) w' ∧ MapR w' b (fun _ => none) ∧ w.grownBy w' (some b) := by
 obtain ⟨es, c, hb, h1, h2⟩ := h
 refine ⟨setBlock w b (.map #[] c), ?_, ⟨_, _, heap_setBlock_same hb _, fun e he => by simp at he, fun x v h => by cases h⟩, ⟨rfl, rfl, rfl, by simp [setBlock], fun i _ hi => heap_setBlock_other hb _ (fun e => hi (by rw [e]))⟩⟩
 simp [Builtin.clear_, run_underlying ht, MapKept.run_getObj_map hb, MapKept.run_setObj_map _ hb, Result.andThen, setBlock]
end
end Go.Proofs.YtdjffkkbjbiihaaGreatDoor
namespace Go.Proofs.YtdjffkkbjbiihaaGreatDoor
open Go.RowKit
def Mid (a b : Nat) (W W' : World) : Prop := W.heap.size ≤ W'.heap.size ∧ ∀ k, a ≤ k → k < b → W'.heap[k]? = W.heap[k]?
theorem Mid.refl (a b : Nat) (W : World) : Mid a b W W := ⟨Nat.le_refl _, fun _ _ _ => rfl⟩
theorem Mid.trans {a b : Nat} {A B C : World} (h : Mid a b A B) (k : Mid a b B C) : Mid a b A C := ⟨Nat.le_trans h.1 k.1, fun i h1 h2 => (k.2 i h1 h2).trans (h.2 i h1 h2)⟩
theorem Mid.of_fut {a b : Nat} {W W' : World} (h : Fut W W') (hb : b ≤ W.heap.size) : Mid a b W W' := ⟨h.size, fun k _ h2 => Below.block h k (by omega)⟩
theorem Mid.grown {a b : Nat} {W W' : World} {row : Option Nat} (hg : W.grownBy W' row) (hb : b ≤ W.heap.size) (hr : ∀ k, row = some k → k < a ∨ b ≤ k) : Mid a b W W' :=
 ⟨hg.size, fun k h1 h2 => hg.block k (by omega) (fun e => by have := hr k e.symm; omega)⟩
end Go.Proofs.YtdjffkkbjbiihaaGreatDoor
namespace Go.Proofs.YtdjffkkbjbiihaaGreatDoor
open Go.RowKit Go.WideMaps
structure Only (S : Nat → Prop) (w w' : World) : Prop where
 os : w'.os = w.os
 tape : w'.tape = w.tape
 output : w'.output = w.output
 size : w.heap.size ≤ w'.heap.size
 block : ∀ k, k < w.heap.size → ¬ S k → w'.heap[k]? = w.heap[k]?
theorem Only.fut {S : Nat → Prop} {w w' : World} (h : Fut w w') : Only S w w' := ⟨h.os, h.tape, h.output, h.size, fun k hk _ => Below.block h k hk⟩
theorem Only.toFut {S : Nat → Prop} {w w' : World} (h : Only S w w') (hS : ∀ k, S k → w.heap.size ≤ k) : Fut w w' := ⟨h.os, h.tape, h.output, h.size, fun k hk => h.block k hk fun hs => by have := hS k hs; omega⟩
theorem Only.refl {S : Nat → Prop} (w : World) : Only S w w := Only.fut (Fut.refl w)
theorem Only.trans {S : Nat → Prop} {a b c : World} (h : Only S a b) (k : Only S b c) : Only S a c :=
 ⟨k.os.trans h.os, k.tape.trans h.tape, k.output.trans h.output, Nat.le_trans h.size k.size, fun i hi hn => (k.block i (Nat.lt_of_lt_of_le hi h.size) hn).trans (h.block i hi hn)⟩
theorem Only.mono {S S' : Nat → Prop} {w w' : World} (h : Only S w w') (hS : ∀ k, k < w.heap.size → S k → S' k) : Only S' w w' :=
 ⟨h.os, h.tape, h.output, h.size, fun k hk hn => h.block k hk fun hs => hn (hS k hk hs)⟩
theorem Only.then {S S' : Nat → Prop} {a b c : World} (h : Only S a b) (k : Only S' b c) (hS : ∀ i, S' i → i < a.heap.size → S i) : Only S a c :=
 ⟨k.os.trans h.os, k.tape.trans h.tape, k.output.trans h.output, Nat.le_trans h.size k.size, fun i hi hn => (k.block i (Nat.lt_of_lt_of_le hi h.size) (fun hs => hn (hS i hs hi))).trans (h.block i hi hn)⟩
theorem Only.grown {S : Nat → Prop} {w w' : World} {row : Option Nat} (hg : w.grownBy w' row) (hS : ∀ k, row = some k → S k) : Only S w w' :=
 ⟨hg.os, hg.tape, hg.output, hg.size, fun k hk hn => hg.block k hk (fun e => hn (hS k e.symm))⟩
theorem Only.set {S : Nat → Prop} {w : World} (p : Addr) (v : Value) (hS : S p.block) : Only S w (w.setCell p v) :=
 ⟨rfl, rfl, rfl, by show _ ≤ (w.heap.modify _ _).size; rw [Array.size_modify]; exact Nat.le_refl _, fun k hk hn => Below.heap_setCell w p v k (fun e => hn (e ▸ hS))⟩
theorem Only.put {S : Nat → Prop} {w : World} (g : Nat) (o : Obj) (hS : S g) : Only S w (w.putObj g o) :=
 ⟨rfl, rfl, rfl, by simp [World.putObj], fun k hk hn => World.putObj_heap_other (fun e => hn (e ▸ hS))⟩
theorem Only.keeps {S : Nat → Prop} {w w' : World} (h : Only S w w') {k : Nat} {o : Obj} (ho : w.heap[k]? = some o) (hn : ¬ S k) : w'.heap[k]? = some o :=
 (h.block k (Array.getElem?_eq_some_iff.1 ho).1 hn).trans ho
theorem Only.cell {S : Nat → Prop} {w w' : World} (h : Only S w w') {p : Addr} {v : Value} (hc : w.cell? p = some v) (hn : ¬ S p.block) : w'.cell? p = some v :=
 (World.cell?_of_block (h.block p.block (lt_of_cell hc) hn)).trans hc
def RowAt (w : World) (b off : Nat) (x : Rw) : Prop := Rw.ok x ∧ ∀ j c, (Rw.cells x)[j]? = some c → w.cell? ⟨b, off + j, none⟩ = some c
theorem RowAt.fut {w w' : World} {b off : Nat} {x : Rw} (h : RowAt w b off x) (hf : Fut w w') : RowAt w' b off x := ⟨h.1, fun j c hj => hf.cell (h.2 j c hj)⟩
theorem RowAt.only {S : Nat → Prop} {w w' : World} {b off : Nat} {x : Rw} (h : RowAt w b off x) (ho : Only S w w') (hn : ¬ S b) : RowAt w' b off x := ⟨h.1, fun j c hj => ho.cell (h.2 j c hj) hn⟩
theorem RowAt.of_block {w : World} {b : Nat} {t : TypeId} {fr : Nat × Nat} {x : Rw} (hx : Rw.ok x) (h : w.heap[b]? = some (.cells (Rw.cells x).toArray t fr)) : RowAt w b 0 x := ⟨hx, fun j c hj => by
 rw [Nat.zero_add]; simp [World.cell?, h, hj]⟩
theorem RowAt.new (w : World) (t : TypeId) {x : Rw} (hx : Rw.ok x) : RowAt (w.alloc (.cells (Rw.cells x).toArray t)) w.heap.size 0 x := RowAt.of_block hx (heap_alloc_new w _)
structure RowTy (P : Program) (k e : TypeId) : Prop where
 A : ArrKey P k e 24
 he : P.underlying e = some (.int .i32)
 hsz : ∃ m, P.types.size = m + 1
 hi : (P.info? k).map (·.size) = some 24
section
variable {P : Program} {k e : TypeId} {w : World} {b off : Nat} {r : Rw} {o : Oper} {a : Act}
theorem wpList_of_run {ops : Array Oper} {rest : List Oper} {Q : Exit → Act → World → Prop} {v : Value} {w' : World} (hgd : Region.wanted o (yielded ops a.tmps) = true)
  (hrun : (execOp a.eval o).run P w = .ok (.value v) w') (h : wpList P ops Q rest (a.put o.dst v) w') : wpList P ops Q (o :: rest) a w := by
 refine wpList_step fun K hK => ?_
 rw [if_pos hgd]
 unfold Oper.wp
 rw [hrun]
 exact hK _ _ h
theorem wpList_of_skip {ops : Array Oper} {rest : List Oper} {Q : Exit → Act → World → Prop} {w' : World} (hgd : Region.wanted o (yielded ops a.tmps) = true)
  (hrun : (execOp a.eval o).run P w = .ok .skip w') (h : wpList P ops Q rest (a.put o.dst undef) w') : wpList P ops Q (o :: rest) a w := by
 refine wpList_step fun K hK => ?_
 rw [if_pos hgd]
 unfold Oper.wp
 rw [hrun]
 exact hK _ _ h
theorem setCells_put {t : TypeId} {fr : Nat × Nat} : ∀ (vs : List Value) (o : Nat) (w : World) (arr : Array Value), w.heap[b]? = some (.cells arr t fr) →
  ∃ arr', w.setCells b o vs = w.putObj b (.cells arr' t fr) ∧ arr'.size = arr.size ∧ ∀ j, arr'[j]? = if o ≤ j ∧ j < o + vs.length ∧ j < arr.size then vs[j - o]? else arr[j]?
 | [], o, w, arr, h => ⟨arr, by
   simp only [World.setCells, World.putObj]
   have hlt := (Array.getElem?_eq_some_iff.1 h)
   obtain ⟨hl, he⟩ := hlt
   have : w.heap.setIfInBounds b (.cells arr t fr) = w.heap := by
    refine Array.ext_getElem? fun i => ?_
    by_cases hi : i = b
    ·subst hi; rw [h]; simp [hl]
    ·rw [Array.getElem?_setIfInBounds_ne (Ne.symm hi)]
   rw [this], rfl, fun j => by rw [if_neg (by simp; omega)]⟩
 | v :: vs, o, w, arr, h => by
  have hs : (w.setCell ⟨b, o, none⟩ v).heap[b]? = some (.cells (arr.setIfInBounds o v) t fr) := by simp [World.setCell, Array.getElem?_modify, h]
  obtain ⟨arr', h1, h2, h3⟩ := setCells_put vs (o + 1) _ _ hs
  refine ⟨arr', ?_, by rw [h2]; simp, fun j => ?_⟩
  ·simp only [World.setCells]
   rw [h1]
   simp only [World.putObj, World.setCell]
   congr 1
   refine Array.ext_getElem? fun i => ?_
   by_cases hi : i = b
   ·subst hi
    have hl := (Array.getElem?_eq_some_iff.1 h).1
    simp [hl]
   ·rw [Array.getElem?_setIfInBounds_ne (Ne.symm hi), Array.getElem?_setIfInBounds_ne (Ne.symm hi), Array.getElem?_modify, if_neg (Ne.symm hi)]
  ·rw [h3]
   simp only [Array.size_setIfInBounds, List.length_cons]
   by_cases h4 : j = o
   ·subst h4
    rw [if_neg (by omega)]
    by_cases h5 : j < arr.size
    ·rw [if_pos (by omega)]; simp [h5]
    ·rw [if_neg (by omega)]; simp [h5]
   ·rw [Array.getElem?_setIfInBounds_ne (Ne.symm h4)]
    by_cases h5 : o + 1 ≤ j ∧ j < o + 1 + vs.length ∧ j < arr.size
    ·rw [if_pos h5, if_pos (by omega), show j - o = (j - (o + 1)) + 1 by omega, List.getElem?_cons_succ]
    ·rw [if_neg h5, if_neg (by omega)]
theorem putObj_alloc (w : World) (o o' : Obj) : (w.alloc o).putObj w.heap.size o' = w.alloc o' := by
 unfold World.putObj World.alloc
 congr 1
 refine Array.ext_getElem? fun j => ?_
 by_cases hj : j = w.heap.size
 ·subst hj; simp
 ·rw [Array.getElem?_setIfInBounds_ne (Ne.symm hj), Array.getElem?_push, Array.getElem?_push]
  simp [hj]
end
@[simp] theorem Rw.val_cells (x : Rw) : (Rw.val x).cells = (Rw.cells x).toArray := rfl
end Go.Proofs.YtdjffkkbjbiihaaGreatDoor
namespace Go.Proofs.YtdjffkkbjbiihaaGreatDoor
open Go.RowKit
theorem cellsAt_push {css : List (List Value)} {z cs : List Value} {sz j : Nat} (hs : ∀ c ∈ css, c.length = sz) (hl : cs.length = sz) (hsz : 0 < sz) :
  cellsAt (css ++ [cs]) z sz j = if css.length * sz ≤ j ∧ j < css.length * sz + sz then cs.getD (j - css.length * sz) undef else cellsAt css z sz j := by
 unfold cellsAt
 have hdm := Nat.div_add_mod j sz
 have hml := Nat.mod_lt j hsz
 rcases Nat.lt_trichotomy (j / sz) css.length with h | h | h
 ·have h1 : j < css.length * sz := (Nat.div_lt_iff_lt_mul hsz).1 h
  rw [if_neg (by omega), List.getElem?_append_left h]
 ·have h1 : sz * (j / sz) = css.length * sz := by rw [h, Nat.mul_comm]
  rw [if_pos (by omega), List.getElem?_append_right (by omega), h, Nat.sub_self]
  have h2 : j % sz = j - css.length * sz := by omega
  rw [h2]
  rfl
 ·have h1 : css.length + 1 ≤ j / sz := h
  have h2 : (css.length + 1) * sz ≤ j := (Nat.le_div_iff_mul_le hsz).1 h1
  rw [Nat.add_mul, Nat.one_mul] at h2
  rw [if_neg (by omega), List.getElem?_eq_none (by rw [List.length_append, List.length_singleton]; omega), List.getElem?_eq_none (by omega)]
section
variable {w : World} {g N sz : Nat} {t : TypeId} {css : List (List Value)} {z cs : List Value}
theorem BlkF.row (h : BlkF w g t N (cellsAt css z sz)) (hs : ∀ c ∈ css, c.length = sz) (hN : css.length * sz + sz ≤ N) (hl : cs.length = sz) (hsz : 0 < sz) :
  w.there g (css.length * sz) sz ∧ BlkF (w.setCells g (css.length * sz) cs) g t N (cellsAt (css ++ [cs]) z sz) ∧ Only (fun k => k = g) w (w.setCells g (css.length * sz) cs) := by
 obtain ⟨arr, h1, h2, h3⟩ := h
 obtain ⟨arr', e1, e2, e3⟩ := setCells_put cs (css.length * sz) w arr h1
 refine ⟨fun j hj => ⟨?_, ?_⟩, ?_, ?_⟩
 ·simp [World.cell?, h1, h2]; omega
 ·simp [World.frozen?, h1]
 ·refine ⟨arr', ?_, by rw [e2, h2], fun j hj => ?_⟩
  ·rw [e1]
   have := (Array.getElem?_eq_some_iff.1 h1).1
   simp [World.putObj, this]
  ·rw [e3, cellsAt_push hs hl hsz, hl]
   by_cases hq : css.length * sz ≤ j ∧ j < css.length * sz + sz
   ·rw [if_pos ⟨hq.1, hq.2, by omega⟩, if_pos hq]
    have : j - css.length * sz < cs.length := by omega
    simp [List.getD, this]
   ·rw [if_neg (fun p => hq ⟨p.1, p.2.1⟩), if_neg hq, h3 j hj]
 ·rw [e1]
  exact Only.put g _ rfl
theorem made_k (zc : List Value) (n j : Nat) (hz : 0 < zc.length) (hj : j < n) : (madeCells zc.toArray n).getD j undef = cellsAt [] zc zc.length j := by
 rw [cellsAt_nil]
 have hm : j % zc.length < zc.length := Nat.mod_lt _ hz
 simp [madeCells, hj, hm]
theorem blk_madeK (w : World) (zc : List Value) (n : Nat) (t : TypeId) (hz : 0 < zc.length) : BlkF (w.alloc (.cells (madeCells zc.toArray (n * zc.length)) t)) w.heap.size t (n * zc.length) (cellsAt [] zc zc.length) := by
 have h := BlkF.new w t (madeCells zc.toArray (n * zc.length))
 rw [size_madeCells] at h
 exact h.congr fun j hj => made_k zc _ j hz hj
end
section
variable {P : Program} {ops : Array Oper} {rest : List Oper} {op : Oper} {a : Act} {w : World} {Q : Exit → Act → World → Prop} {g N sz o : Nat} {t : TypeId} {css : List (List Value)} {z : List Value}
theorem wpList_storeK (cs : List Value) (hgd : op.guard = none) (ty : TypeId) (x y : Operand) (ho : op.op = .store ty x y) (hx : a.eval x = .pointer (some ⟨g, o, none⟩)) (hy : a.eval y = .agg cs.toArray) (hb : BlkF w g t N (cellsAt css z sz)) (hs : ∀ c ∈ css, c.length = sz) (ho2 : o = css.length * sz) (hN : css.length * sz + sz ≤ N) (hl : cs.length = sz) (hsz : 0 < sz)
  (hi : (P.info? ty).map (·.size) = some sz) (h1 : ∀ v ∈ cs, v.oneCell' = true)
  (h : ∀ w', BlkF w' g t N (cellsAt (css ++ [cs]) z sz) → Only (fun k => k = g) w w' → wpList P ops Q rest (a.put op.dst undef) w') : wpList P ops Q (op :: rest) a w := by
 subst ho2
 obtain ⟨a1, a2, a3⟩ := hb.row hs hN hl hsz
 have hsz2 : cs.toArray.size = sz := by simpa using hl
 refine wpList_store_mid hgd ty x y ho g _ cs.toArray hx hy (by rw [hsz2]; exact a1) (by rw [hsz2]; exact hi) (all_oneCell_toArray h1) ?_
 exact h _ a2 a3
end
theorem wpList_loadG {P : Program} {ops : Array Oper} {rest : List Oper} {op : Oper} {a : Act} {w : World} {Q : Exit → Act → World → Prop} (hgd : Region.wanted op (yielded ops a.tmps) = true) (ty : TypeId) (x : Operand) (ho : op.op = .load ty x)
  (b o : Nat) (hx : a.eval x = .pointer (some ⟨b, o, none⟩)) (cs : List Value) (d : TypeDesc) (hc : w.rangeAt b o cs)
  (hu : P.underlying ty = some d) (hd : d.isRow = true) (hi : (P.info? ty).map (·.size) = some cs.length)
  (h : wpList P ops Q rest (a.put op.dst (.agg cs.toArray)) w) : wpList P ops Q (op :: rest) a w := by
 refine wpList_step fun K hK => ?_
 rw [if_pos hgd]
 exact wp_load_mid ty x ho b o hx cs d hc hu hd hi (hK _ _ h)
end Go.Proofs.YtdjffkkbjbiihaaGreatDoor
