/- Rep, Own, MapE, OrdL -/
import Derived.ProofKit
import Derived.WideKeyArgs
import Derived.Deep.Slices
import Derived.Carry
import Derived.Laws.IdiomStrings
import Derived.Laws.MakeOwn
import Derived.Laws.Entries
import Derived.SizedLaws
import Derived.Laws.AppendOwn
import Derived.OwnWalk
import Derived.Maps.Keyed
import Derived.Maps.Own
import Derived.Maps.OwnSet
import Derived.Test.YtkdnplebgmmclaaC01
/-
  What the arguments' memory holds, as plain data: lists, structs; how it is read off the form's own reading; and the last step of every law that answers true and leaves what was there as it was.
-/
namespace Go.Proofs.Ytkdnplebgmmclaa
open Go.RowKit Go.ChangeShapes Go.WideShapes Go.ChangeAt Go.Deep

/-! ### The row's last step -/
section
variable {H : Type} {enc : TypeId × Value → H} {P : Program}

theorem trodAll_stays (hl : laidOutB P = true) {W W' : World} {sp' : Nat → Bool} : ∀ {ts : List TypeId} {vs : List Value} {ds : List (DataW H)} {ps : List MemPlace},
    (ts.all fun t => P.readableRec t && decide (t < P.types.size)) = true → DataW.TrodAll enc P W 0 (fun _ => true) true ts vs ds ps → (∀ p ∈ ps, W.sameAt W' p) → (∀ p ∈ ps, sp' p.block = true) →
    DataW.TrodAll enc P W' 0 sp' true ts vs ds ps
  | [], [], [], ps, _, h, _, _ => h
  | [], _ :: _, _, _, _, h, _, _ => by simp [DataW.TrodAll] at h
  | [], [], _ :: _, _, _, h, _, _ => by simp [DataW.TrodAll] at h
  | t :: ts, [], _, _, _, h, _, _ => by simp [DataW.TrodAll] at h
  | t :: ts, v :: vs, [], _, _, h, _, _ => by simp [DataW.TrodAll] at h
  | t :: ts, v :: vs, d :: ds, ps, ht, h, hs, hsp => by
    obtain ⟨p, q, h1, h2, rfl⟩ := h
    simp only [List.all_cons, Bool.and_eq_true, decide_eq_true_eq] at ht
    exact ⟨p, q, WideElems.Trod_stays hl ht.1.1 ht.1.2 h1 (fun x hx => hs x (List.mem_append_left _ hx)) (fun x hx => hsp x (List.mem_append_left _ hx)),
      trodAll_stays hl (by simpa using ht.2) h2 (fun x hx => hs x (List.mem_append_right _ hx)) (fun x hx => hsp x (List.mem_append_right _ hx)), rfl⟩

/-- A law's post: it answers true, and memory has grown. -/
theorem law_post {f : Func} {s : ChangeSpec} {tb : TypeId} {W W' : World} {args : Array Value} {ds gs : List (DataW H)} {before : List MemPlace} (hl : laidOutB P = true)
    (hW : DataW.Whole enc P f.params.toList s.vars false W args.toList ds gs before) (hv : s.vars = [])
    (ht : (f.params.toList.all fun t => P.readableRec t && decide (t < P.types.size)) = true)
    (hr : f.resultTypes = #[tb]) (hb : P.underlying tb = some .bool)
    (hres : (s.fn H (ds ++ gs)).results = [.lit (.bool true)]) (hargs : (s.fn H (ds ++ gs)).args = ds) (hvars : (s.fn H (ds ++ gs)).vars = [])
    (hf : Fut W W') : s.post enc P f false true false false W args (.bool true) W' := by
  have hW0 := hW
  obtain ⟨p, q, hA, hV, rfl, hfz, _⟩ := hW
  rw [hv] at hV
  obtain ⟨rfl, rfl⟩ := trodVars_none hV
  have hlt : ∀ x ∈ p ++ [], x.block < W.heap.size := fun x hx => hW0.lt x hx
  have hold : ∀ x ∈ p ++ [], (fun b => decide (b < W.heap.size)) x.block = true := fun x hx => by simpa using hlt x hx
  have hA' : ∀ sp : Nat → Bool, (∀ x ∈ p ++ [], sp x.block = true) → DataW.TrodAll enc P W' 0 sp true f.params.toList args.toList ds p := fun sp hsp =>
    trodAll_stays hl ht hA (fun x hx => hf.same (hlt x (List.mem_append_left _ hx))) (fun x hx => hsp x (List.mem_append_left _ hx))
  have hres' : ∀ (b : Nat) (sp : Nat → Bool) (hd : Bool), DataW.TrodAll enc P W' b sp hd f.resultTypes.toList ((Value.bool true).resultList f.resultTypes.size) (s.fn H (ds ++ [])).results [] := fun b sp hd => by
    rw [hres, hr]
    exact trodAll_mk1 (shut_bool hb true)
  have hV' : ∀ sp : Nat → Bool, DataW.TrodVars enc P W' sp s.vars (s.fn H (ds ++ [])).vars [] := fun sp => by
    rw [hvars, hv]
    rfl
  have hA3 : ∀ sp : Nat → Bool, (∀ x ∈ p ++ [], sp x.block = true) → DataW.TrodAll enc P W' 0 sp true f.params.toList args.toList (s.fn H (ds ++ [])).args p := by rw [hargs]; exact hA'
  refine ⟨ds, [], p ++ [], [], p, [], hW0, hres' _ _ _, hA3 _ hold, hV' _, World.keptBut_mono (fun x hx => ⟨hx, Or.inr (List.mem_append.1 hx)⟩) (hf.frame (· ∈ p ++ [])), fun _ => ?_⟩
  refine ⟨?_, _, _, ([] ++ p) ++ [], ⟨[] ++ p, [], trodAll_append (hA3 _ (fun _ _ => rfl)) (hres' _ _ _), hV' _, rfl, ?_, fun h => by cases h⟩, ?_⟩
  · intro j t r hj hv'
    rw [hr] at hj hv'
    match j, hj, hv' with
    | 0, hj, hv' =>
      simp [Value.resultList] at hj hv'
      subst hj; subst hv'
      exact okWide_bool_mk hb true
  · intro b off hp
    have hin : MemPlace.cell b off ∈ p ++ [] := by simpa using hp
    rw [Below.frozen hf (hlt _ hin)]
    exact hfz b off hin
  · intro x hx _
    simpa using hx
end

/-- The reach, argument by argument. -/
theorem weights_arg {H : Type} {P : Program} {ts : List TypeId} {ds : List (DataW H)} (h : (DataW.weightsEach P ts ds).all (· ≤ reachBytes) = true) (j : Nat) {t : TypeId} {d : DataW H} (ht : ts[j]? = some t) (hd : ds[j]? = some d) : ∀ n ∈ d.weights P t, n ≤ reachBytes :=
  fun n hn => by simpa using List.all_eq_true.1 h n (DataW.weights_mem_each ht hd n hn)

/-! ### Data -/
/-- A list in a slice's memory: each element takes 'sz' cells, of which R tells what they hold; the capacity is at most M. -/
def SlRep {α : Type} (sz M : Nat) (R : World → List Value → α → Prop) (w : World) (v : Value) (xs : List α) : Prop :=
  ∃ (A : Option Addr) (cap : Nat), v = .slice A xs.length cap ∧ xs.length ≤ cap ∧ cap ≤ M ∧
    ∀ i x, xs[i]? = some x → ∃ b off cs, A = some ⟨b, off, none⟩ ∧ cs.length = sz ∧ (∀ j c, cs[j]? = some c → w.cell? ⟨b, off + (i * sz + j), none⟩ = some c) ∧ R w cs x
/-- What later memory does not turn. -/
def Stays {α : Type} (R : World → List Value → α → Prop) : Prop := ∀ w w' cs x, Fut w w' → R w cs x → R w' cs x
theorem SlRep.fut {α : Type} {sz M : Nat} {R : World → List Value → α → Prop} (hR : Stays R) {w w' : World} {v : Value} {xs : List α} (h : SlRep sz M R w v xs) (hf : Fut w w') : SlRep sz M R w' v xs := by
  obtain ⟨A, cap, hv, h1, h2, h3⟩ := h
  refine ⟨A, cap, hv, h1, h2, fun i x hx => ?_⟩
  obtain ⟨b, off, cs, hA, hl, hc, hr⟩ := h3 i x hx
  exact ⟨b, off, cs, hA, hl, fun j c hj => hf.cell (hc j c hj), hR _ _ _ _ hf hr⟩
theorem SlRep.more {α : Type} {sz M M' : Nat} {R : World → List Value → α → Prop} {w : World} {v : Value} {xs : List α} (h : SlRep sz M R w v xs) (hM : M ≤ M') : SlRep sz M' R w v xs := by
  obtain ⟨A, cap, hv, h1, h2, h3⟩ := h
  exact ⟨A, cap, hv, h1, by omega, h3⟩
theorem SlRep.imp {α : Type} {sz M : Nat} {R R' : World → List Value → α → Prop} {w : World} {v : Value} {xs : List α} (h : SlRep sz M R w v xs) (hR : ∀ cs x, R w cs x → R' w cs x) : SlRep sz M R' w v xs := by
  obtain ⟨A, cap, hv, h1, h2, h3⟩ := h
  refine ⟨A, cap, hv, h1, h2, fun i x hx => ?_⟩
  obtain ⟨b, off, cs, hA, hl, hc, hr⟩ := h3 i x hx
  exact ⟨b, off, cs, hA, hl, hc, hR _ _ hr⟩
theorem SlRep.form {α : Type} {sz M : Nat} {R : World → List Value → α → Prop} {w : World} {v : Value} {xs : List α} (h : SlRep sz M R w v xs) : ∃ A cap, v = .slice A xs.length cap ∧ xs.length ≤ cap ∧ cap ≤ M := by
  obtain ⟨A, cap, hv, h1, h2, _⟩ := h
  exact ⟨A, cap, hv, h1, h2⟩
theorem SlRep.len {α : Type} {sz M : Nat} {R : World → List Value → α → Prop} {w : World} {v : Value} {xs : List α} (h : SlRep sz M R w v xs) : xs.length ≤ M := by
  obtain ⟨A, cap, hv, h1, h2, _⟩ := h
  omega
/-- .. of cells: a slice is one cell. -/
def SlR {α : Type} (sz M : Nat) (R : World → List Value → α → Prop) (w : World) (cs : List Value) (xs : List α) : Prop := ∃ v, cs = [v] ∧ SlRep sz M R w v xs
theorem SlR.stays {α : Type} {sz M : Nat} {R : World → List Value → α → Prop} (hR : Stays R) : Stays (SlR sz M R) := fun _ _ _ _ hf ⟨v, h1, h2⟩ => ⟨v, h1, h2.fut hR hf⟩
theorem SlRep.nil {α : Type} {sz M : Nat} {R : World → List Value → α → Prop} {w : World} : SlRep sz M R w (.slice none 0 0) ([] : List α) :=
  ⟨none, 0, rfl, Nat.le_refl _, Nat.zero_le _, fun i x hx => by simp at hx⟩

/-- What a type's cells read as, within the form's own reach. -/
def Reads {α : Type} (P : Program) (t : TypeId) (R : World → List Value → α → Prop) : Prop :=
  ∀ (H : Type) (enc : TypeId × Value → H) (w : World) (base : Nat) (held : Bool) (fuel : Nat) (cs : List Value) (x : DataW H × List MemPlace), DataW.trod enc P w base (fun _ => true) held fuel t cs = some x →
    (∀ n ∈ x.1.weights P t, n ≤ reachBytes) → ∃ d, R w cs d
theorem Reads.imp {α : Type} {P : Program} {t : TypeId} {R R' : World → List Value → α → Prop} (h : Reads P t R) (hR : ∀ w cs d, R w cs d → R' w cs d) : Reads P t R' := fun H enc w base held fuel cs x hx hn => by
  obtain ⟨d, hd⟩ := h H enc w base held fuel cs x hx hn
  exact ⟨d, hR _ _ _ hd⟩

theorem exists_list {α : Type} {p : Nat → α → Prop} : ∀ n, (∀ i, i < n → ∃ x, p i x) → ∃ xs : List α, xs.length = n ∧ ∀ i x, xs[i]? = some x → p i x
  | 0, _ => ⟨[], rfl, fun i x hx => by simp at hx⟩
  | n + 1, h => by
    obtain ⟨xs, hl, hx⟩ := exists_list n fun i hi => h i (by omega)
    obtain ⟨y, hy⟩ := h n (by omega)
    refine ⟨xs ++ [y], by simp [hl], fun i x hi => ?_⟩
    rcases Nat.lt_or_ge i n with h' | h'
    · exact hx i x (by rwa [List.getElem?_append_left (by omega)] at hi)
    · rw [List.getElem?_append_right (by omega), hl] at hi
      have : i = n := by
        have := (List.getElem?_eq_some_iff.1 hi).1
        simp at this; omega
      subst this
      simp at hi
      rw [← hi]; exact hy

theorem weightsAll_mem {H : Type} {P : Program} {e : TypeId} : ∀ {ds : List (DataW H)} {d : DataW H}, d ∈ ds → ∀ n ∈ d.weights P e, n ∈ DataW.weightsAll P e ds
  | d0 :: r, d, hd, n, hn => by
    simp only [DataW.weightsAll, List.mem_append]
    rcases List.mem_cons.1 hd with rfl | h
    · exact .inl hn
    · exact .inr (weightsAll_mem h n hn)

theorem reads_slice {α : Type} {P : Program} {t e : TypeId} {sz M : Nat} {R : World → List Value → α → Prop} (ht : P.underlying t = some (.slice e)) (hc : P.cellsOf e = sz) (h0 : 0 < sz) (hM : ∀ c, c * P.bytesOf e ≤ reachBytes → c ≤ M) (hR : Reads P e R) : Reads P t (SlR sz M R) := by
  intro H enc w base held fuel cs x h hn
  rcases open_slice ht h with ⟨h1, _⟩ | ⟨a, len, cap, m, n, D, Pl, hcs, hb, hl, hm, hmm, hx, hi⟩
  · exact ⟨[], _, h1, SlRep.nil⟩
  · have hlm : len ≤ m := by rw [hmm]; simp; exact hl
    have hmc : m = cap := by rw [hmm]; simp
    have hw : x.1.weights P t = (len + (cap - len)) * P.bytesOf e :: (DataW.weightsAll P e ((List.range len).map D) ++ DataW.weightsAll P e ((List.range (m - len)).map fun j => D (len + j))) := by
      rw [hx]
      simp [DataW.weights, ht, hmc]
    have hcap : cap ≤ M := hM cap (by
      have := hn ((len + (cap - len)) * P.bytesOf e) (by rw [hw]; simp)
      rwa [show len + (cap - len) = cap by omega] at this)
    obtain ⟨xs, hxl, hxs⟩ := exists_list (p := fun i x => ∃ b off cs', some a = some ⟨b, off, none⟩ ∧ cs'.length = sz ∧ (∀ j c, cs'[j]? = some c → w.cell? ⟨b, off + (i * sz + j), none⟩ = some c) ∧ R w cs' x) len fun i hil => by
      obtain ⟨cs', h1, h2⟩ := hi i (by omega)
      obtain ⟨y, hy⟩ := hR H enc w base held n cs' _ h2 fun k hk => hn k (by
        rw [hw]
        refine List.mem_cons_of_mem _ (List.mem_append_left _ (weightsAll_mem (d := D i) ?_ k hk))
        exact List.mem_map.2 ⟨i, List.mem_range.2 hil, rfl⟩)
      rw [hc] at h1
      obtain ⟨_, hlen, hcell⟩ := World.cells?_some h1
      obtain ⟨ab, ao, asp⟩ := a
      have hsp : asp = none ∨ ∀ j, j < sz → False := by
        cases asp with
        | none => exact .inl rfl
        | some q =>
          right
          intro j hj
          have h0' := (hi 0 (by omega))
          obtain ⟨cs0, hz0, _⟩ := h0'
          rw [hc] at hz0
          obtain ⟨_, hlen0, hcell0⟩ := World.cells?_some hz0
          have := hcell0 0 h0
          rw [List.getElem?_eq_getElem (by omega)] at this
          unfold World.cell? Addr.add at this
          simp at this
          split at this <;> simp at this
      rcases hsp with rfl | hsp
      · refine ⟨y, ab, ao, cs', rfl, hlen, fun j c hj => ?_, hy⟩
        have hjl : j < sz := by rw [← hlen]; exact (List.getElem?_eq_some_iff.1 hj).1
        have := hcell j hjl
        rw [hj] at this
        rw [← this]
        congr 1
        unfold Addr.add
        by_cases h1' : i * sz = 0 <;> by_cases h2' : j = 0 <;> simp [h1', h2', Nat.add_assoc]
      · exact (hsp 0 h0).elim
    exact ⟨xs, _, hcs, some a, cap, by rw [hxl], by omega, hcap, hxs⟩

theorem reads_string {P : Program} {t : TypeId} (ht : P.underlying t = some .string) : Reads P t (fun _ cs (s : ByteArray) => cs = [.string s] ∧ s.size ≤ 140737488351232) := by
  intro H enc w base held fuel cs x h hn
  obtain ⟨s, h1, hx, h2⟩ := DataW.trod_string ht h
  refine ⟨s, h1, ?_⟩
  have := hn s.data.toList.length (by rw [hx]; simp [DataW.weights])
  simpa [reachBytes] using this
theorem reads_int {P : Program} {t : TypeId} {k : IntKind} (ht : P.underlying t = some (.int k)) : Reads P t (fun _ cs (n : Int) => cs = [.int k n] ∧ (Lit.int k n).wf = true) := by
  intro H enc w base held fuel cs x h _
  obtain ⟨s, h1, _, h2⟩ := DataW.trod_int ht h
  exact ⟨s, h1, h2⟩

theorem reads_field {α : Type} {P : Program} {f : Field} {R : World → List Value → α → Prop} {H : Type} {enc : TypeId × Value → H} {w : World} {base : Nat} {held : Bool} {t : TypeId} {fs : Array Field} {fuel : Nat} {cs : List Value} {x : DataW H × List MemPlace}
    (hs : P.underlying t = some (.struct fs)) (h : DataW.trod enc P w base (fun _ => true) held fuel t cs = some x) (hn : ∀ n ∈ x.1.weights P t, n ≤ reachBytes) (i : Nat) (hi : fs[i]? = some f) (hR : Reads P f.type R) :
    ∃ d, R w ((cs.drop f.offset).take (P.cellsOf f.type)) d := by
  obtain ⟨xs, n, _, hx, _, hl, hf⟩ := DataW.trod_struct hs h
  have h1 := hf i f hi
  have hil : i < fs.size := (Array.getElem?_eq_some_iff.1 hi).1
  have hxi : xs[i]? = some (xs[i]'(by omega)) := List.getElem?_eq_getElem (by omega)
  rw [hxi] at h1
  refine hR H enc w base held n _ _ h1 fun k hk => hn k ?_
  rw [hx]
  simp only [DataW.weights, hs]
  refine DataW.weights_mem_each (j := i) (t := f.type) (d := (xs[i]'(by omega)).1) ?_ (by simp [hxi]) k hk
  have : fs.toList[i]? = some f := by simpa using hi
  simp [this]
theorem reads_len {P : Program} {H : Type} {enc : TypeId × Value → H} {w : World} {base : Nat} {held : Bool} {t : TypeId} {fs : Array Field} {fuel : Nat} {cs : List Value} {x : DataW H × List MemPlace}
    (hs : P.underlying t = some (.struct fs)) (h : DataW.trod enc P w base (fun _ => true) held fuel t cs = some x) : cs.length = P.cellsOf t := by
  obtain ⟨_, _, _, _, hl, _, _⟩ := DataW.trod_struct hs h
  exact hl

/-- api.Value. -/
structure V where
  k : Int
  n : Int
  s : ByteArray
def V.ok (x : V) : Prop := (Lit.int .i8 x.k).wf = true ∧ (Lit.int .i64 x.n).wf = true ∧ x.s.size ≤ 140737488351232
def V.cells (x : V) : List Value := [.int .i8 x.k, .int .i64 x.n, .string x.s]
def V.val (x : V) : Value := .agg #[.int .i8 x.k, .int .i64 x.n, .string x.s]
def RV (_ : World) (cs : List Value) (x : V) : Prop := cs = x.cells ∧ x.ok
theorem RV.stays : Stays RV := fun _ _ _ _ _ h => h
/-- What an argument holds; what a contract asks. -/
abbrev ValsA : World → Value → List V → Prop := SlRep 3 4398046511104 RV
abbrev Vals : World → Value → List V → Prop := SlRep 3 9223372036854775807 RV
theorem ValsA.vals {w : World} {v : Value} {xs : List V} (h : ValsA w v xs) : Vals w v xs := h.more (by omega)
theorem reads_V {P : Program} {t : TypeId} {f0 f1 f2 : Field} (hs : P.underlying t = some (.struct #[f0, f1, f2])) (hC : P.cellsOf t = 3) (h0 : P.underlying f0.type = some (.int .i8)) (h1 : P.underlying f1.type = some (.int .i64)) (h2 : P.underlying f2.type = some .string)
    (o0 : f0.offset = 0) (o1 : f1.offset = 1) (o2 : f2.offset = 2) (c0 : P.cellsOf f0.type = 1) (c1 : P.cellsOf f1.type = 1) (c2 : P.cellsOf f2.type = 1) : Reads P t RV := by
  intro H enc w base held fuel cs x h hn
  have hl := (reads_len hs h).trans hC
  obtain ⟨k, e0, w0⟩ := reads_field hs h hn 0 rfl (reads_int h0)
  obtain ⟨n, e1, w1⟩ := reads_field hs h hn 1 rfl (reads_int h1)
  obtain ⟨s, e2, w2⟩ := reads_field hs h hn 2 rfl (reads_string h2)
  match cs, hl with
  | [a, b, c], _ =>
    simp [o0, o1, o2, c0, c1, c2] at e0 e1 e2
    exact ⟨⟨k, n, s⟩, by rw [e0, e1, e2]; rfl, w0, w1, w2⟩

/-- api.Fact: its name, its tuple, and the slice's value. -/
structure Fc where
  p : ByteArray
  a : List V
def RF (w : World) (cs : List Value) (x : Fc) : Prop := ∃ v, cs = [.string x.p, v] ∧ x.p.size ≤ 140737488351232 ∧ ValsA w v x.a
theorem RF.stays : Stays RF := fun _ _ _ _ hf ⟨v, h1, h2, h3⟩ => ⟨v, h1, h2, h3.fut RV.stays hf⟩
abbrev Facs : World → Value → List Fc → Prop := SlRep 2 3518437208883 RF
theorem reads_F {P : Program} {t : TypeId} {f0 f1 : Field} (hs : P.underlying t = some (.struct #[f0, f1])) (hC : P.cellsOf t = 2) (h0 : P.underlying f0.type = some .string) (h1 : Reads P f1.type (SlR 3 4398046511104 RV))
    (o0 : f0.offset = 0) (o1 : f1.offset = 1) (c0 : P.cellsOf f0.type = 1) (c1 : P.cellsOf f1.type = 1) : Reads P t RF := by
  intro H enc w base held fuel cs x h hn
  have hl := (reads_len hs h).trans hC
  obtain ⟨s, e0, w0⟩ := reads_field hs h hn 0 rfl (reads_string h0)
  obtain ⟨xs, v, e1, w1⟩ := reads_field hs h hn 1 rfl h1
  match cs, hl with
  | [a, b], _ =>
    simp [o0, o1, c0, c1] at e0 e1
    exact ⟨⟨s, xs⟩, v, by rw [e0, e1], w0, w1⟩

/-- An argument. -/
theorem reads_arg {α : Type} {P : Program} {t : TypeId} {R : World → List Value → α → Prop} (hR : Reads P t R) {H : Type} {enc : TypeId × Value → H} {w : World} {v : Value} {d : DataW H} {ps : List MemPlace} (h : DataW.Trod enc P w 0 (fun _ => true) true t v d ps) (hs : ∀ n ∈ d.weights P t, n ≤ reachBytes) :
    ∃ x, R w v.cells.toList x := by
  obtain ⟨n, hn⟩ := h
  exact hR H enc w 0 true n _ _ hn hs
theorem arg_struct {P : Program} {w : World} {r : Reach} {b : Nat} {t : TypeId} {fs : Array Field} {v : Value} (hs : P.underlying t = some (.struct fs)) (hv : Value.okWide P w r b t v) : ∃ cs, v = .agg cs := by
  obtain ⟨cs, h, _⟩ := okWide_struct hs hv
  exact ⟨cs, h⟩
theorem arg_V {w : World} {v : Value} {x : V} (h : RV w v.cells.toList x) (hv : ∃ cs, v = .agg cs) : v = x.val := by
  obtain ⟨⟨cs⟩, rfl⟩ := hv
  have h1 : cs = x.cells := by simpa [Value.cells] using h.1
  subst h1; rfl
theorem arg_F {w : World} {v : Value} {x : Fc} (h : RF w v.cells.toList x) (hv : ∃ cs, v = .agg cs) : ∃ u, v = .agg #[.string x.p, u] ∧ x.p.size ≤ 140737488351232 ∧ ValsA w u x.a := by
  obtain ⟨⟨cs⟩, rfl⟩ := hv
  obtain ⟨u, h1, h2, h3⟩ := h
  have h1 : cs = [.string x.p, u] := by simpa [Value.cells] using h1
  subst h1; exact ⟨u, rfl, h2, h3⟩
theorem arg_slice {α : Type} {P : Program} {sz M : Nat} {R : World → List Value → α → Prop} {w : World} {r : Reach} {b : Nat} {t e : TypeId} {v : Value} {xs : List α} (h : SlR sz M R w v.cells.toList xs) (ht : P.underlying t = some (.slice e)) (hv : Value.okWide P w r b t v) : SlRep sz M R w v xs := by
  obtain ⟨a, len, cap, rfl⟩ := okWide_slice ht hv
  obtain ⟨u, h1, h2⟩ := h
  simp [Value.cells] at h1
  rw [h1]; exact h2

/-- A slice literal of ints. -/
def RI (_ : World) (cs : List Value) (n : Int) : Prop := cs = [.int .i64 n]
theorem RI.stays : Stays RI := fun _ _ _ _ _ h => h
theorem ints_new (w : World) (e : TypeId) (xs : List Int) (hl : xs.length ≤ 17592186044416) : SlRep 1 17592186044416 RI (w.alloc (.cells (xs.map (Value.int .i64)).toArray e)) (.slice (some ⟨w.heap.size, 0, none⟩) xs.length xs.length) xs := by
  refine ⟨_, _, rfl, Nat.le_refl _, hl, fun i x hx => ⟨_, _, [.int .i64 x], rfl, rfl, fun j c hj => ?_, rfl⟩⟩
  have hj0 : j = 0 := by
    have := (List.getElem?_eq_some_iff.1 hj).1
    simp at this; omega
  subst hj0
  simp at hj
  subst hj
  rw [show 0 + (i * 1 + 0) = i by omega]
  refine (World.cell?_alloc_mark w _ e (0, 0) i).trans ?_
  simp [hx]

/-! ### A block of the call's own, cell by cell -/
def BlkF (w : World) (g : Nat) (t : TypeId) (N : Nat) (f : Nat → Value) : Prop :=
  ∃ arr : Array Value, w.heap[g]? = some (.cells arr t (0, 0)) ∧ arr.size = N ∧ ∀ j, j < N → arr[j]? = some (f j)
section
variable {w w' : World} {g N : Nat} {t : TypeId} {f : Nat → Value}
theorem BlkF.lt (h : BlkF w g t N f) : g < w.heap.size := by
  obtain ⟨arr, h1, _⟩ := h
  rcases Nat.lt_or_ge g w.heap.size with h' | h'
  · exact h'
  · rw [Array.getElem?_eq_none h'] at h1; cases h1
theorem BlkF.cell (h : BlkF w g t N f) {j : Nat} (hj : j < N) : w.cell? ⟨g, j, none⟩ = some (f j) := by
  obtain ⟨arr, h1, h2, h3⟩ := h
  simp [World.cell?, h1, h3 j hj]
theorem BlkF.free (h : BlkF w g t N f) (j : Nat) : w.frozen? ⟨g, j, none⟩ = false := by
  obtain ⟨arr, h1, _⟩ := h
  simp [World.frozen?, h1]
theorem BlkF.fut (h : BlkF w g t N f) (hf : Fut w w') : BlkF w' g t N f := by
  obtain ⟨arr, h1, h2⟩ := h
  exact ⟨arr, hf.block h1, h2⟩
theorem BlkF.congr {f' : Nat → Value} (h : BlkF w g t N f) (he : ∀ j, j < N → f j = f' j) : BlkF w g t N f' := by
  obtain ⟨arr, h1, h2, h3⟩ := h
  exact ⟨arr, h1, h2, fun j hj => by rw [h3 j hj, he j hj]⟩
theorem BlkF.set (h : BlkF w g t N f) (i : Nat) (v : Value) : BlkF (w.setCell ⟨g, i, none⟩ v) g t N (fun j => if j = i then v else f j) := by
  obtain ⟨arr, h1, h2, h3⟩ := h
  refine ⟨arr.setIfInBounds i v, ?_, by simp [h2], fun j hj => ?_⟩
  · simp [World.setCell, Array.getElem?_modify, h1]
  · by_cases hij : j = i
    · subst hij; simp [h2, hj]
    · rw [Array.getElem?_setIfInBounds_ne (Ne.symm hij), h3 j hj]; simp [hij]
theorem BlkF.far (h : BlkF w g t N f) {p : Addr} (hp : g ≠ p.block) (v : Value) : BlkF (w.setCell p v) g t N f := by
  obtain ⟨arr, h1, h2⟩ := h
  exact ⟨arr, (Below.heap_setCell w p v g hp).trans h1, h2⟩
theorem BlkF.alloc (h : BlkF w g t N f) (o : Obj) : BlkF (w.alloc o) g t N f := h.fut (Fut.alloc w o)
theorem BlkF.drew (h : BlkF w g t N f) : BlkF w.drew g t N f := h
theorem BlkF.new (w : World) (t : TypeId) (arr : Array Value) : BlkF (w.alloc (.cells arr t)) w.heap.size t arr.size (fun j => arr.getD j undef) :=
  ⟨arr, heap_alloc_new w _, rfl, fun j hj => by simp [hj]⟩
end

/-- The cells of a list of values, one behind the other. -/
def flat (xs : List V) (j : Nat) : Value := ((xs[j / 3]?).map fun x => x.cells.getD (j % 3) undef).getD undef
theorem flat_at (xs : List V) (k : Nat) (hk : k < xs.length) : flat xs (k * 3) = .int .i8 (xs[k]).k ∧ flat xs (k * 3 + 1) = .int .i64 (xs[k]).n ∧ flat xs (k * 3 + 2) = .string (xs[k]).s := by
  unfold flat
  rw [show k * 3 / 3 = k by omega, show (k * 3 + 1) / 3 = k by omega, show (k * 3 + 2) / 3 = k by omega, show k * 3 % 3 = 0 by omega, show (k * 3 + 1) % 3 = 1 by omega, show (k * 3 + 2) % 3 = 2 by omega, List.getElem?_eq_getElem hk]
  exact ⟨rfl, rfl, rfl⟩
/-- A list with a block of its own. -/
theorem vals_of_blk {w : World} {g t N cap : Nat} {xs : List V} {f : Nat → Value} (h : BlkF w g t N f) (hN : xs.length * 3 ≤ N) (hf : ∀ j, j < xs.length * 3 → f j = flat xs j) (hc : xs.length ≤ cap) (hm : cap ≤ 9223372036854775807) (hok : ∀ x ∈ xs, x.ok) :
    Vals w (.slice (some ⟨g, 0, none⟩) xs.length cap) xs := by
  refine ⟨_, _, rfl, hc, hm, fun i x hx => ⟨g, 0, x.cells, rfl, rfl, fun j c hj => ?_, rfl, hok x (List.mem_of_getElem? hx)⟩⟩
  have hil : i < xs.length := (List.getElem?_eq_some_iff.1 hx).1
  have hjl : j < 3 := (List.getElem?_eq_some_iff.1 hj).1
  rw [Nat.zero_add, h.cell (by omega), hf _ (by omega)]
  unfold flat
  rw [show (i * 3 + j) / 3 = i by omega, show (i * 3 + j) % 3 = j by omega, hx]
  simp [List.getD, hj]

theorem run_make_rowN {P : Program} (t e : TypeId) (i : TypeInfo) (z : Value) (ht : P.underlying t = some (.slice e)) (hi : P.info? e = some i) (hz : i.zero = some z)
    (kl kc : IntKind) (n c : Nat) (hnc : n ≤ c) (hbytes : i.bytes * c ≤ 281474976710656) (h63 : c ≤ 9223372036854775807) (w : World) :
    (Instr.makeSlice t (.int kl (n : Int)) (.int kc (c : Int))).run P w = .ok (.slice (some ⟨w.heap.size, 0, none⟩) n c) (w.alloc (.cells (madeCells z.cells (c * i.size)) e)) := by
  have hb : (i.bytes : Int) * (c : Int) ≤ 281474976710656 := by
    have h : ((i.bytes * c : Nat) : Int) ≤ 281474976710656 := by omega
    rwa [Int.natCast_mul] at h
  have hr := run_make (P := P) w t e i z ht hi hz kl kc n c (by omega) (by omega) hb (by omega)
  simp only [Int.toNat_natCast] at hr
  exact hr

end Go.Proofs.Ytkdnplebgmmclaa
/-
  A list that the call builds by append: what it holds, whether there was room or a new array was made. Generic in the elements; no program.
-/
namespace Go.Proofs.Ytkdnplebgmmclaa
open Go.RowKit
set_option linter.unusedSimpArgs false
set_option linter.unusedVariables false

/-- A list of the call's own, in a block from B on (or nil). -/
def OwnL {α : Type} (sz B : Nat) (e : TypeId) (R : World → List Value → α → Prop) (w : World) (v : Value) (xs : List α) : Prop :=
  ∃ css : List (List Value), css.length = xs.length ∧ (∀ (i : Nat) (cs : List Value) (x : α), css[i]? = some cs → xs[i]? = some x → cs.length = sz ∧ R w cs x) ∧ w.ownsRow B e sz v xs.length css.flatten
section
variable {α : Type} {sz B M : Nat} {e : TypeId} {R : World → List Value → α → Prop} {w w' : World} {v u : Value} {xs ys : List α}
theorem OwnL.nil : OwnL sz B e R w (.slice none 0 0) ([] : List α) := ⟨[], rfl, fun i cs x h => by simp at h, World.ownsRow_nil w B e sz⟩
theorem OwnL.fut (hR : Stays R) (h : OwnL sz B e R w v xs) (hf : Fut w w') : OwnL sz B e R w' v xs := by
  obtain ⟨css, h1, h2, h3, h4⟩ := h
  refine ⟨css, h1, fun i cs x hi hx => ⟨(h2 i cs x hi hx).1, hR _ _ _ _ hf (h2 i cs x hi hx).2⟩, h3, ?_⟩
  rcases h4 with h4 | ⟨g, cap, cur, a1, a2, a3, a4⟩
  · exact .inl h4
  · exact .inr ⟨g, cap, cur, a1, a2, hf.block a3, a4⟩
theorem flatten_at {css : List (List Value)} (hs : ∀ (i : Nat) (cs : List Value), css[i]? = some cs → cs.length = sz) : ∀ (i j : Nat) (cs : List Value) (c : Value), css[i]? = some cs → cs[j]? = some c → css.flatten[i * sz + j]? = some c := by
  induction css with
  | nil => intro i j cs c h; simp at h
  | cons a r ih =>
    intro i j cs c h hj
    have ha := hs 0 a rfl
    cases i with
    | zero =>
      simp only [List.getElem?_cons_zero, Option.some.injEq] at h
      subst h
      rw [Nat.zero_mul, Nat.zero_add, List.flatten_cons, List.getElem?_append_left (List.getElem?_eq_some_iff.1 hj).1]
      exact hj
    | succ i =>
      rw [List.flatten_cons, List.getElem?_append_right (by rw [ha, Nat.add_mul]; omega), ha, show (i + 1) * sz + j - sz = i * sz + j by rw [Nat.add_mul]; omega]
      exact ih (fun k cs hk => hs (k + 1) cs (by simpa using hk)) i j cs c (by simpa using h) hj
theorem flatten_len {css : List (List Value)} (hs : ∀ (i : Nat) (cs : List Value), css[i]? = some cs → cs.length = sz) : css.flatten.length = css.length * sz := by
  induction css with
  | nil => simp
  | cons a r ih =>
    rw [List.flatten_cons, List.length_append, hs 0 a rfl, ih fun k cs hk => hs (k + 1) cs (by simpa using hk), List.length_cons, Nat.add_mul]; omega
/-- Read as a list. -/
theorem OwnL.rep (h : OwnL sz B e R w v xs) : SlRep sz maxLen R w v xs := by
  obtain ⟨css, h1, h2, h3, h4⟩ := h
  rcases h4 with ⟨rfl, h5⟩ | ⟨g, cap, cur, rfl, a2, a3, a4, a5, a6, a7⟩
  · have : xs = [] := List.length_eq_zero_iff.1 h5
    subst this
    exact ⟨none, 0, rfl, Nat.le_refl _, Nat.zero_le _, fun i x hx => by simp at hx⟩
  · refine ⟨_, cap, rfl, a4, a5, fun i x hx => ?_⟩
    have hil : i < xs.length := (List.getElem?_eq_some_iff.1 hx).1
    have hc : css[i]? = some (css[i]'(by omega)) := List.getElem?_eq_getElem (by omega)
    obtain ⟨b1, b2⟩ := h2 i _ x hc hx
    refine ⟨g, 0, _, rfl, b1, fun j c hj => ?_, b2⟩
    have hs : ∀ (i : Nat) (cs : List Value), css[i]? = some cs → cs.length = sz := fun i cs hi => by
      have hl : i < css.length := (List.getElem?_eq_some_iff.1 hi).1
      exact (h2 i cs _ hi (List.getElem?_eq_getElem (by omega))).1
    have hf := flatten_at hs i j _ c hc hj
    have hfl : i * sz + j < xs.length * sz := by
      have := (List.getElem?_eq_some_iff.1 hf).1
      rwa [flatten_len hs, h1] at this
    rw [← a7, List.getElem?_take, if_pos hfl, Array.getElem?_toList] at hf
    rw [Nat.zero_add]
    simp [World.cell?, a3, hf]
/-- .. its block. -/
theorem OwnL.block (h : OwnL sz B e R w v xs) : ∀ k, v.ownBlock = some k → B ≤ k ∧ k < w.heap.size := by
  obtain ⟨css, h1, h2, h3⟩ := h
  exact h3.lt
theorem Fut.grown {w0 : World} (h : Fut w0 w) {row : Option Nat} (hg : w.grownBy w' row) (hrow : ∀ k, row = some k → w0.heap.size ≤ k) : Fut w0 w' :=
  ⟨hg.os.trans h.os, hg.tape.trans h.tape, hg.output.trans h.output, Nat.le_trans h.size hg.size, fun k hk => (hg.block k (Nat.lt_of_lt_of_le hk h.size) (fun e => absurd (hrow k e.symm) (by omega))).trans (Below.block h k hk)⟩
theorem run_append_none {P : Program} (t ty : TypeId) (i : TypeInfo) (ht : P.underlying t = some (.slice e)) (hi : P.info? e = some i) (A : Option Addr) (n cap c : Nat) (hn : n ≤ cap) (w : World) :
    (Builtin.append_ #[t, t] ty #[.slice A n cap, .slice none 0 c]).run P w = .ok (.slice A n cap) w := by
  cases A <;> simp [Builtin.append_, run_underlying ht, sizeOf, typeInfo, hi, Builtin.lenOf, run_firstCells_none, hn, storeCells]

/-- APPEND: the list grows by what the second one holds. -/
theorem run_append_list {P : Program} (t ty : TypeId) (i : TypeInfo) (z : Value) (bytes : Nat) (ht : P.underlying t = some (.slice e)) (hi : P.info? e = some i) (hz : i.zero = some z) (hsize : i.size = sz) (hby : i.bytes = bytes) (hzs : z.cells.size = sz) (hsz : 0 < sz)
    (hR1 : ∀ w cs x, R w cs x → ∀ u ∈ cs, u.oneCell' = true) (hRk : ∀ w' cs (x : α), R w cs x → w.grownBy w' v.ownBlock → R w' cs x)
    (h : OwnL sz B e R w v xs) (hu : SlRep sz M R w u ys) (h63 : xs.length + ys.length ≤ maxLen) (hbytes : (xs.length + ys.length) * bytes ≤ 140737488355328) (hbase : B ≤ w.heap.size) :
    ∃ v' w', (Builtin.append_ #[t, t] ty #[v, u]).run P w = .ok v' w' ∧ OwnL sz B e R w' v' (xs ++ ys) ∧ w.grownBy w' v.ownBlock := by
  have h0 := h
  obtain ⟨css, h1, h2, h3⟩ := h
  obtain ⟨A, cap, rfl, hl, hm, hx⟩ := hu
  have hgrow : ∀ w', w.grownBy w' v.ownBlock → ∀ (i : Nat) (cs : List Value) (x : α), css[i]? = some cs → xs[i]? = some x → cs.length = sz ∧ R w' cs x := fun w' hg i cs x hi hx => ⟨(h2 i cs x hi hx).1, hRk _ _ _ (h2 i cs x hi hx).2 hg⟩
  cases A with
  | none =>
    have hy : ys = [] := by
      cases ys with
      | nil => rfl
      | cons y r => obtain ⟨_, _, _, hA, _⟩ := hx 0 y rfl; cases hA
    subst hy
    obtain ⟨A', cap', hv, hl', _⟩ := h0.rep.form
    subst hv
    exact ⟨_, w, run_append_none t ty i ht hi A' _ cap' cap hl' w, by rw [List.append_nil]; exact h0, World.grownBy.refl w _⟩
  | some a =>
    obtain ⟨news, hnl, hnews⟩ := exists_list (p := fun k (cs : List Value) => ∃ y, ys[k]? = some y ∧ cs.length = sz ∧ R w cs y ∧ ∀ j c, cs[j]? = some c → w.cell? (a.add (k * sz + j)) = some c) ys.length fun k hk => by
      obtain ⟨b, off, cs, hA, b1, b2, b3⟩ := hx k _ (List.getElem?_eq_getElem hk)
      injection hA with hA
      subst hA
      refine ⟨cs, _, List.getElem?_eq_getElem hk, b1, b3, fun j c hj => ?_⟩
      rw [← b2 j c hj]
      congr 1
      unfold Addr.add
      by_cases h' : k * sz + j = 0 <;> simp [h']
    have hs : ∀ (i : Nat) (cs : List Value), news[i]? = some cs → cs.length = sz := fun i cs hi => by obtain ⟨y, _, b1, _⟩ := hnews i cs hi; exact b1
    have hcells : ∀ j u, news.flatten[j]? = some u → w.cell? (a.add j) = some u := fun j u hj => by
      have hjl : j < news.length * sz := by
        have := (List.getElem?_eq_some_iff.1 hj).1
        rwa [flatten_len hs] at this
      have hk : j / sz < news.length := Nat.div_lt_of_lt_mul (by rw [Nat.mul_comm]; exact hjl)
      obtain ⟨y, _, b1, _, b2⟩ := hnews (j / sz) _ (List.getElem?_eq_getElem hk)
      have hr : j % sz < (news[j / sz]).length := by rw [b1]; exact Nat.mod_lt _ hsz
      have e1 := flatten_at hs (j / sz) (j % sz) _ _ (List.getElem?_eq_getElem hk) (List.getElem?_eq_getElem hr)
      have e2 := b2 (j % sz) _ (List.getElem?_eq_getElem hr)
      rw [show j / sz * sz + j % sz = j by rw [Nat.mul_comm]; exact Nat.div_add_mod j sz] at e1 e2
      rw [hj] at e1
      rw [e2, ← e1]
    have hone : ∀ u ∈ news.flatten, u.oneCell' = true := fun u hu => by
      obtain ⟨cs, hc, hu⟩ := List.mem_flatten.1 hu
      obtain ⟨k, hk⟩ := List.getElem?_of_mem hc
      obtain ⟨y, _, _, b3, _⟩ := hnews k cs hk
      exact hR1 _ _ _ b3 u hu
    obtain ⟨v', w', r1, r2, r3, _⟩ := run_append_own (P := P) (w := w) B t ty e i z sz bytes ht hi hz hsize hby hzs hsz v xs.length css.flatten h3 a ys.length cap news.flatten (by rw [flatten_len hs, hnl]) hcells hone h63 hbytes hbase
    refine ⟨v', w', r1, ⟨css ++ news, by simp [h1, hnl], fun k cs x hk hx' => ?_, by rw [List.flatten_append, List.length_append]; exact r2⟩, r3⟩
    rcases Nat.lt_or_ge k css.length with h' | h'
    · rw [List.getElem?_append_left h'] at hk
      rw [List.getElem?_append_left (by omega)] at hx'
      exact hgrow w' r3 k cs x hk hx'
    · rw [List.getElem?_append_right h'] at hk
      rw [List.getElem?_append_right (by omega)] at hx'
      obtain ⟨y, e1, b1, b3, _⟩ := hnews _ _ hk
      rw [h1, hx'] at e1
      obtain rfl := Option.some.inj e1
      exact ⟨b1, hRk _ _ _ b3 r3⟩
end

/-! ### Values and facts -/
abbrev OwnV (B : Nat) (e : TypeId) : World → Value → List V → Prop := OwnL 3 B e RV
theorem RV.one : ∀ (w : World) cs x, RV w cs x → ∀ u ∈ cs, u.oneCell' = true := fun w cs x h u hu => by
  obtain ⟨rfl, _⟩ := h
  simp [V.cells] at hu
  rcases hu with rfl | rfl | rfl <;> rfl
/-- Lists of values, appended. -/
theorem run_append_V {P : Program} {t ty e : TypeId} {B : Nat} {w : World} {v u : Value} {xs ys : List V} {M : Nat} (ht : P.underlying t = some (.slice e))
    (hinfo : (P.info? e).map (fun i => (i.zero, i.size, i.bytes)) = some (some (.agg #[.int .i8 0, .int .i64 0, .string ⟨#[]⟩]), 3, 32))
    (h : OwnV B e w v xs) (hu : SlRep 3 M RV w u ys) (hlen : xs.length + ys.length ≤ 4398046511104) (hbase : B ≤ w.heap.size) :
    ∃ v' w', (Builtin.append_ #[t, t] ty #[v, u]).run P w = .ok v' w' ∧ OwnV B e w' v' (xs ++ ys) ∧ w.grownBy w' v.ownBlock := by
  obtain ⟨i, hi, hz, hs, hb⟩ := info_parts hinfo
  exact run_append_list t ty i _ 32 ht hi hz hs hb rfl (by omega) RV.one (fun _ _ _ h _ => h) h hu (by unfold maxLen; omega) (by omega) hbase
theorem OwnV.vals {B : Nat} {e : TypeId} {w : World} {v : Value} {xs : List V} (h : OwnV B e w v xs) : Vals w v xs := h.rep.more (by unfold maxLen; omega)
end Go.Proofs.Ytkdnplebgmmclaa
/- Maps with their entries, in the order in which they came: lookup, a new key, a key that is there. Generic; no program. -/
namespace Go.Proofs.Ytkdnplebgmmclaa
open Go.RowKit Go.WideMaps Go.Maps
open Go.ChangeMaps (setBlock heap_setBlock_same heap_setBlock_other)
set_option linter.unusedSimpArgs false
set_option linter.unusedVariables false

/-- How plain keys lie as values. -/
structure KeyOn {α : Type} (P : Program) (k : TypeId) (kv : α → Value) (ok : α → Prop) : Prop where
  law : Keyed P k
  lit : ∀ x, ok x → ∃ l, keyOf P k (kv x) = some l
  inj : ∀ x y, kv x = kv y → x = y
/-- Block b is a map with these entries, in the order in which they came. -/
def MapE {α : Type} (kv : α → Value) (w : World) (b : Nat) (l : List (α × Value)) : Prop :=
  ∃ es clock, w.heap[b]? = some (.map es clock) ∧ MapKept.Stamped es clock ∧ es.toList.map (fun e => (e.key, e.val)) = l.map (fun p => (kv p.1, p.2))
/-- What stands at a key. -/
def getE {α : Type} [DecidableEq α] (l : List (α × Value)) (x : α) : Option Value := (l.find? (fun p => decide (p.1 = x))).map (·.2)
theorem getE_none {α : Type} [DecidableEq α] {l : List (α × Value)} {x : α} (h : ∀ p ∈ l, p.1 ≠ x) : getE l x = none := by
  unfold getE
  rw [List.find?_eq_none.2 (fun p hp => by simpa using h p hp)]
  rfl
theorem nodup_of_map {α β : Type} {f : α → β} : ∀ {l : List α}, (l.map f).Nodup → l.Nodup
  | [], _ => List.nodup_nil
  | a :: l, h => by
    rw [List.map_cons, List.nodup_cons] at h
    exact List.nodup_cons.2 ⟨fun ha => h.1 (List.mem_map_of_mem ha), nodup_of_map h.2⟩
theorem getE_at {α : Type} [DecidableEq α] : ∀ {l : List (α × Value)} {j : Nat} {x : α} {v : Value}, (l.map (·.1)).Nodup → l[j]? = some (x, v) → getE l x = some v
  | [], j, x, v, _, h => by simp at h
  | (y, u) :: l, 0, x, v, hn, h => by
    simp only [List.getElem?_cons_zero, Option.some.injEq, Prod.mk.injEq] at h
    obtain ⟨rfl, rfl⟩ := h
    simp [getE]
  | (y, u) :: l, j + 1, x, v, hn, h => by
    rw [List.getElem?_cons_succ] at h
    rw [List.map_cons, List.nodup_cons] at hn
    have hne : y ≠ x := fun e => hn.1 (by rw [e]; exact List.mem_map.2 ⟨(x, v), List.mem_of_getElem? h, rfl⟩)
    have := getE_at hn.2 h
    unfold getE at this ⊢
    rw [List.find?_cons_of_neg (by simpa using hne)]
    exact this
section
variable {α : Type} {P : Program} {k t e : TypeId} {kv : α → Value} {ok : α → Prop} {w w' : World} {b : Nat} {l : List (α × Value)}
theorem MapE.new (w : World) : MapE kv (w.alloc (.map #[] 0)) w.heap.size [] := ⟨#[], 0, heap_alloc_new w _, MapKept.stamped_empty 0, rfl⟩
theorem MapE.lt (h : MapE kv w b l) : b < w.heap.size := by
  obtain ⟨es, c, h1, _⟩ := h
  exact (Array.getElem?_eq_some_iff.1 h1).1
theorem MapE.kept (h : MapE kv w b l) (hs : w'.heap[b]? = w.heap[b]?) : MapE kv w' b l := by
  obtain ⟨es, c, h1, h2⟩ := h
  exact ⟨es, c, hs.trans h1, h2⟩
theorem MapE.fut (h : MapE kv w b l) (hf : Fut w w') : MapE kv w' b l := by
  obtain ⟨es, c, h1, h2⟩ := h
  exact ⟨es, c, hf.block h1, h2⟩
theorem MapE.grown (h : MapE kv w b l) {r : Option Nat} (hg : w.grownBy w' r) (hne : some b ≠ r) : MapE kv w' b l :=
  h.kept (hg.block b h.lt (fun e => hne e))
theorem MapE.nodup (h : MapE kv w b l) : (l.map (·.1)).Nodup := by
  obtain ⟨es, c, _, h2, h3⟩ := h
  have h4 : es.toList.map (·.key) = (l.map (·.1)).map kv := by
    have := congrArg (List.map Prod.fst) h3
    simpa [List.map_map, Function.comp_def] using this
  have h5 := h2.2.2
  rw [h4] at h5
  exact nodup_of_map h5
theorem MapE.find (K : KeyOn P k kv ok) (hok : ∀ p ∈ l, ok p.1) {es : Array MapEntry} (h3 : es.toList.map (fun e => (e.key, e.val)) = l.map (fun p => (kv p.1, p.2))) {x : α} (hx : ok x) :
    ((∀ p ∈ l, p.1 ≠ x) ∧ (∀ y ∈ es.toList, y.key ≠ kv x) ∧ (Instr.findKey k (kv x) es.toList).run P w = .ok none w) ∨
    ∃ j v y, l[j]? = some (x, v) ∧ es.toList[j]? = some y ∧ y.key = kv x ∧ y.val = v ∧ (Instr.findKey k (kv x) es.toList).run P w = .ok (some (j, v)) w := by
  obtain ⟨lx, hlx⟩ := K.lit x hx
  have at' : ∀ j : Nat, (es.toList[j]?).map (fun e => (e.key, e.val)) = (l[j]?).map (fun p => (kv p.1, p.2)) := fun j => by
    have := congrArg (fun a => a[j]?) h3
    simpa using this
  have key : ∀ y ∈ es.toList, ∃ p ∈ l, y.key = kv p.1 ∧ y.val = p.2 := fun y hy => by
    have : (y.key, y.val) ∈ es.toList.map (fun e => (e.key, e.val)) := List.mem_map.2 ⟨y, hy, rfl⟩
    rw [h3] at this
    obtain ⟨p, hp, he⟩ := List.mem_map.1 this
    injection he with e1 e2
    exact ⟨p, hp, e1.symm, e2.symm⟩
  rcases K.law.find w hlx es.toList (fun y hy => by
    obtain ⟨p, hp, e1, _⟩ := key y hy
    rw [e1]; exact K.lit _ (hok p hp)) with ⟨h4, h5⟩ | ⟨j, y, h4, h5, h6⟩
  · refine .inl ⟨fun p hp he => ?_, h5, h4⟩
    have : (kv p.1, p.2) ∈ es.toList.map (fun e => (e.key, e.val)) := by rw [h3]; exact List.mem_map.2 ⟨p, hp, rfl⟩
    obtain ⟨y, hy, e1⟩ := List.mem_map.1 this
    injection e1 with e1 e2
    exact h5 y hy (by rw [e1, he])
  · have h7 := at' j
    rw [h5] at h7
    cases hl : l[j]? with
    | none => rw [hl] at h7; cases h7
    | some p =>
      rw [hl] at h7
      simp only [Option.map_some, Option.some.injEq, Prod.mk.injEq] at h7
      have e1 : p.1 = x := K.inj _ _ (h7.1.symm.trans h6)
      obtain ⟨p1, p2⟩ := p
      simp only at e1 h7
      subst e1
      exact .inr ⟨j, p2, y, hl, h5, h6, h7.2, by rw [h4, h7.2]⟩
theorem MapE.look [DecidableEq α] (h : MapE kv w b l) (K : KeyOn P k kv ok) (hok : ∀ p ∈ l, ok p.1) (ht : P.underlying t = some (.map k e)) {z : Value} (hz : ∀ w, (zeroValue e).run P w = .ok z w) {x : α} (hx : ok x) :
    (Instr.lookup t (.map (some b)) (kv x) false).run P w = .ok ((getE l x).getD z) w ∧ (Instr.lookup t (.map (some b)) (kv x) true).run P w = .ok (.tuple #[(getE l x).getD z, .bool (getE l x).isSome]) w := by
  have hnd := h.nodup
  obtain ⟨es, c, hb, hst, h3⟩ := h
  obtain ⟨lx, hlx⟩ := K.lit x hx
  rcases MapE.find (w := w) K hok h3 hx with ⟨h4, _, h5⟩ | ⟨j, v, y, h4, _, _, _, h5⟩
  · rw [getE_none h4]
    constructor <;> simp [Instr.lookup, run_underlying ht, MapKept.run_getObj_map hb, K.law.check w _ hlx, h5, hz, Result.andThen]
  · rw [getE_at hnd h4]
    constructor <;> simp [Instr.lookup, run_underlying ht, MapKept.run_getObj_map hb, K.law.check w _ hlx, h5, Result.andThen]
/-- A key more. -/
theorem MapE.push (h : MapE kv w b l) (K : KeyOn P k kv ok) (hok : ∀ p ∈ l, ok p.1) (ht : P.underlying t = some (.map k e)) {x : α} (hx : ok x) (hn : ∀ p ∈ l, p.1 ≠ x) (v : Value) :
    ∃ w', (Instr.mapUpdate t (.map (some b)) (kv x) v).run P w = .ok () w' ∧ MapE kv w' b (l ++ [(x, v)]) ∧ w.grownBy w' (some b) := by
  obtain ⟨es, c, hb, hst, h3⟩ := h
  obtain ⟨lx, hlx⟩ := K.lit x hx
  rcases MapE.find (w := w) K hok h3 hx with ⟨_, h5, h4⟩ | ⟨j, v', y, h4, _⟩
  · refine ⟨setBlock w b (.map (es.push { key := kv x, val := v, born := c }) (c + 1)), ?_, ⟨_, _, heap_setBlock_same hb _, MapKept.stamped_push hst h5, ?_⟩, ⟨rfl, rfl, rfl, by simp [setBlock], fun i _ hi => heap_setBlock_other hb _ (fun e => hi (by rw [e]))⟩⟩
    · simp [Instr.mapUpdate, run_underlying ht, MapKept.run_getObj_map hb, K.law.check w _ hlx, h4, MapKept.run_setObj_map _ hb, Result.andThen, setBlock]
    · rw [Array.toList_push, List.map_append, List.map_append, h3]; rfl
  · exact absurd rfl (hn _ (List.mem_of_getElem? h4))
theorem map_modify {β γ : Type} (f : β → γ) (g : β → β) (g' : γ → γ) (hg : ∀ x, f (g x) = g' (f x)) : ∀ (l : List β) (i : Nat), (l.modify i g).map f = (l.map f).modify i g'
  | [], i => by cases i <;> rfl
  | a :: l, 0 => by simp [hg]
  | a :: l, i + 1 => by simp [map_modify f g g' hg l i]
/-- A key that is there. -/
theorem MapE.put (h : MapE kv w b l) (K : KeyOn P k kv ok) (hok : ∀ p ∈ l, ok p.1) (ht : P.underlying t = some (.map k e)) {x : α} (hx : ok x) {j : Nat} {u : Value} (hj : l[j]? = some (x, u)) (v : Value) :
    ∃ w', (Instr.mapUpdate t (.map (some b)) (kv x) v).run P w = .ok () w' ∧ MapE kv w' b (l.set j (x, v)) ∧ w.grownBy w' (some b) := by
  have hnd := h.nodup
  obtain ⟨es, c, hb, hst, h3⟩ := h
  obtain ⟨lx, hlx⟩ := K.lit x hx
  rcases MapE.find (w := w) K hok h3 hx with ⟨h4, _⟩ | ⟨i, v', y, h4, h5, h6, h7, h8⟩
  · exact absurd rfl (h4 _ (List.mem_of_getElem? hj))
  have hij : i = j := by
    have h9 := List.getElem?_eq_some_iff.1 h4
    have h10 := List.getElem?_eq_some_iff.1 hj
    refine (List.getElem_inj (xs := l.map (·.1)) (h₀ := by rw [List.length_map]; exact h9.1) (h₁ := by rw [List.length_map]; exact h10.1) hnd).1 ?_
    rw [List.getElem_map, List.getElem_map, h9.2, h10.2]
  subst hij
  have h5' : es[i]? = some y := by rw [← Array.getElem?_toList]; exact h5
  refine ⟨setBlock w b (.map (es.modify i fun e => { e with key := kv x, val := v }) c), ?_, ⟨_, _, heap_setBlock_same hb _, MapKept.stamped_modify hst i _ (fun _ _ => rfl) (fun e _ he => by
    rw [h5'] at he
    obtain rfl := Option.some.inj he
    exact h6.symm), ?_⟩, ⟨rfl, rfl, rfl, by simp [setBlock], fun i _ hi => heap_setBlock_other hb _ (fun e => hi (by rw [e]))⟩⟩
  · have hs := K.law.stays w hlx
    simp [Instr.mapUpdate, run_underlying ht, MapKept.run_getObj_map hb, K.law.check w _ hlx, h8, h5', h6, hs, MapKept.run_setObj_map _ hb, Result.andThen, setBlock]
  · haveI : Inhabited (Value × Value) := ⟨(v, v)⟩
    rw [Array.toList_modify, map_modify (fun e : MapEntry => (e.key, e.val)) _ (fun _ => (kv x, v)) (fun _ => rfl), h3, List.modify_eq_set, List.map_set]
theorem MapE.len (h : MapE kv w b l) (ht : P.underlying t = some (.map k e)) (ty : TypeId) : (Builtin.len_ #[t] ty #[.map (some b)]).run P w = .ok (.int .i64 l.length) w := by
  obtain ⟨es, c, hb, _, h3⟩ := h
  have : es.size = l.length := by
    have := congrArg List.length h3
    simpa using this
  simp [Builtin.len_, run_underlying ht, MapKept.run_getObj_map hb, Result.andThen, this, goInt]
end
end Go.Proofs.Ytkdnplebgmmclaa
/- Orders, plain: numbers, lists place by place. No program. -/
namespace Go.Proofs.Ytkdnplebgmmclaa
open Go.RowKit
set_option linter.unusedSimpArgs false
set_option linter.unusedVariables false

def cmpI (a b : Int) : Int := if a < b then -1 else if b < a then 1 else 0
structure Ord3 {α : Type} (c : α → α → Int) : Prop where
  rng : ∀ x y, c x y = -1 ∨ c x y = 0 ∨ c x y = 1
  swap : ∀ x y, c y x = - c x y
  zero : ∀ x y, c x y = 0 ↔ x = y
  tr : ∀ x y z, c x y ≤ 0 → c y z ≤ 0 → c x z ≤ 0
theorem Ord3.refl {α : Type} {c : α → α → Int} (h : Ord3 c) (x : α) : c x x = 0 := (h.zero x x).2 rfl
theorem Ord3.lt {α : Type} {c : α → α → Int} (h : Ord3 c) {x y z : α} (h1 : c x y < 0) (h2 : c y z ≤ 0) : c x z < 0 := by
  have h3 := h.tr x y z (by omega) h2
  rcases Int.lt_or_eq_of_le h3 with h4 | h4
  · exact h4
  · have e := (h.zero x z).1 h4
    subst e
    have := h.swap x y
    omega
theorem Ord3.lt' {α : Type} {c : α → α → Int} (h : Ord3 c) {x y z : α} (h1 : c x y ≤ 0) (h2 : c y z < 0) : c x z < 0 := by
  have h3 := h.tr x y z h1 (by omega)
  rcases Int.lt_or_eq_of_le h3 with h4 | h4
  · exact h4
  · have e := (h.zero x z).1 h4
    subst e
    have := h.swap x y
    omega

def lex (a b : Int) : Int := if a ≠ 0 then a else b
theorem lex_ord {α β γ : Type} {c : α → α → Int} {d : β → β → Int} (hc : Ord3 c) (hd : Ord3 d) (p : γ → α) (q : γ → β) (hinj : ∀ x y, p x = p y → q x = q y → x = y) : Ord3 (fun x y : γ => lex (c (p x) (p y)) (d (q x) (q y))) := by
  constructor
  · intro x y
    unfold lex
    split
    · exact hc.rng _ _
    · exact hd.rng _ _
  · intro x y
    simp only [lex]
    rw [hc.swap (p x), hd.swap (q x)]
    by_cases h : c (p x) (p y) = 0 <;> simp [h]
  · intro x y
    simp only [lex]
    by_cases h : c (p x) (p y) = 0
    · simp only [h, ne_eq, not_true_eq_false, if_false]
      rw [hd.zero]
      exact ⟨hinj _ _ ((hc.zero _ _).1 h), fun e => by rw [e]⟩
    · simp only [ne_eq, h, not_false_eq_true, if_true]
      exact ⟨fun e => e.elim, fun e => by subst e; exact absurd (hc.refl _) h⟩
  · intro x y z h1 h2
    simp only [lex] at h1 h2 ⊢
    by_cases a : c (p x) (p y) = 0
    · by_cases b : c (p y) (p z) = 0
      · have e1 := (hc.zero _ _).1 a
        rw [e1, b]
        simp only [ne_eq, not_true_eq_false, if_false]
        rw [if_neg (by simpa using a)] at h1
        rw [if_neg (by simpa using b)] at h2
        exact hd.tr _ _ _ h1 h2
      · rw [if_pos b] at h2
        have := hc.lt' (x := p x) (y := p y) (z := p z) (by omega) (by omega)
        rw [if_pos (by omega)]
        omega
    · rw [if_pos a] at h1
      have hb : c (p y) (p z) ≤ 0 := by
        by_cases b : c (p y) (p z) = 0
        · omega
        · rwa [if_pos b] at h2
      have := hc.lt (x := p x) (y := p y) (z := p z) (by omega) hb
      rw [if_pos (by omega)]
      omega

theorem ordI : Ord3 cmpI := by
  constructor
  · intro x y; unfold cmpI; (repeat' split) <;> simp
  · intro x y; unfold cmpI; (repeat' split) <;> omega
  · intro x y; unfold cmpI; (repeat' split) <;> omega
  · intro x y z; unfold cmpI; (repeat' split) <;> omega

/-- Lists, place by place. -/
def lcmp {α : Type} (c : α → α → Int) : List α → List α → Int
  | [], [] => 0
  | [], _ :: _ => -1
  | _ :: _, [] => 1
  | x :: r, y :: q => if c x y ≠ 0 then c x y else lcmp c r q
section
variable {α : Type} {c : α → α → Int} (h : Ord3 c)
include h
theorem lcmp_rng : ∀ x y : List α, lcmp c x y = -1 ∨ lcmp c x y = 0 ∨ lcmp c x y = 1
  | [], [] => by simp [lcmp]
  | [], _ :: _ => by simp [lcmp]
  | _ :: _, [] => by simp [lcmp]
  | x :: r, y :: q => by
    simp only [lcmp]
    split
    · exact h.rng _ _
    · exact lcmp_rng r q
theorem lcmp_swap : ∀ x y : List α, lcmp c y x = - lcmp c x y
  | [], [] => rfl
  | [], _ :: _ => rfl
  | _ :: _, [] => rfl
  | x :: r, y :: q => by
    simp only [lcmp]
    rw [h.swap x y, lcmp_swap r q]
    by_cases a : c x y = 0 <;> simp [a]
theorem lcmp_zero : ∀ x y : List α, lcmp c x y = 0 ↔ x = y
  | [], [] => by simp [lcmp]
  | [], _ :: _ => by simp [lcmp]
  | _ :: _, [] => by simp [lcmp]
  | x :: r, y :: q => by
    simp only [lcmp]
    by_cases a : c x y = 0
    · simp only [a, ne_eq, not_true_eq_false, if_false, lcmp_zero r q, List.cons.injEq]
      exact ⟨fun e => ⟨(h.zero _ _).1 a, e⟩, fun e => e.2⟩
    · simp only [ne_eq, a, not_false_eq_true, if_true, List.cons.injEq]
      exact ⟨fun e => e.elim, fun e => absurd ((h.zero _ _).2 e.1) a⟩
theorem lcmp_tr : ∀ x y z : List α, lcmp c x y ≤ 0 → lcmp c y z ≤ 0 → lcmp c x z ≤ 0
  | [], _, [], _, _ => by simp [lcmp]
  | [], _, _ :: _, _, _ => by simp [lcmp]
  | _ :: _, [], _, h1, _ => by simp [lcmp] at h1
  | _ :: _, _ :: _, [], _, h2 => by simp [lcmp] at h2
  | x :: r, y :: q, z :: s, h1, h2 => by
    simp only [lcmp] at h1 h2 ⊢
    by_cases a : c x y = 0
    · by_cases b : c y z = 0
      · have e1 := (h.zero _ _).1 a
        rw [e1, b]
        simp only [ne_eq, not_true_eq_false, if_false]
        rw [if_neg (by simpa using a)] at h1
        rw [if_neg (by simpa using b)] at h2
        exact lcmp_tr r q s h1 h2
      · rw [if_pos b] at h2
        have := h.lt' (x := x) (y := y) (z := z) (by omega) (by omega)
        rw [if_pos (by omega)]
        omega
    · rw [if_pos a] at h1
      have hb : c y z ≤ 0 := by
        by_cases b : c y z = 0
        · omega
        · rwa [if_pos b] at h2
      have := h.lt (x := x) (y := y) (z := z) (by omega) hb
      rw [if_pos (by omega)]
      omega
theorem lcmp_ord : Ord3 (lcmp c) := ⟨lcmp_rng h, lcmp_swap h, lcmp_zero h, lcmp_tr h⟩
end

end Go.Proofs.Ytkdnplebgmmclaa
