/- Rep, Tree, OrdL, Shelf, Cmp -/
import Derived.ProofKit
import Derived.WideKeyArgs
import Derived.Deep.Slices
import Derived.Carry
import Derived.Laws.IdiomStrings
import Derived.Laws.MakeOwn
import Derived.Laws.Entries
import Derived.SizedLaws
import Derived.Shelf.Small.Bits
import Derived.Shelf.Small.Strs
import Derived.Shelf.Strconv.Itoa0
import Derived.Shelf.Sort.Plain
import Derived.Shelf.Slices.Turned
import Derived.Shelf.Slices.In.SortNone
import Derived.Test.YtackadhamghblaaGreatProg
import Derived.Test.YtackadhamghblaaGreatRows
import Derived.WalkKit
import Derived.WalkSpells
import Derived.WalkLawsBesides
import Derived.Lib.Hide
import Derived.Deep.RegionWith
import Derived.Lib.Bytealg
import Derived.Test.YtackadhamghblaaGreatC01
/-
  What the arguments' memory holds, as plain data: lists, structs; how it is read off the form's own reading; and the last step of every law that answers true and leaves what was there as it was.
-/
namespace Go.Proofs.YtackadhamghblaaGreat
open Go.RowKit Go.ChangeShapes Go.WideShapes Go.ChangeAt Go.Deep

/-! ### The row's last step -/
section
variable {H : Type} {enc : TypeId × Value → H} {P : Program}

theorem trodAll_stays (hl : laidOutB P = true) {W W' : World} {sp' : Nat → Bool} : ∀ {ts : List TypeId} {vs : List Value} {ds : List (DataW H)} {ps : List MemPlace},
    (ts.all fun t => P.readableRec t && decide (t < P.types.size)) = true → DataW.TrodAll enc P W 0 (fun _ => true) true ts vs ds ps → (∀ p ∈ ps, W.sameAt W' p) → (∀ p ∈ ps, sp' p.block = true) →
    DataW.TrodAll enc P W' 0 sp' true ts vs ds ps
  | [], [], [], ps, _, h, _, _ => h
  | [], _ :: _, _, _, _, h, _, _ => by simp [DataW.TrodAll] at h
  | [], [], _ :: _, _, _, h, _, _ => by simp [DataW.TrodAll] at h
  | t :: ts, [], _, _, _, h, _, _ => by simp [DataW.TrodAll] at h
  | t :: ts, v :: vs, [], _, _, h, _, _ => by simp [DataW.TrodAll] at h
  | t :: ts, v :: vs, d :: ds, ps, ht, h, hs, hsp => by
    obtain ⟨p, q, h1, h2, rfl⟩ := h
    simp only [List.all_cons, Bool.and_eq_true, decide_eq_true_eq] at ht
    exact ⟨p, q, WideElems.Trod_stays hl ht.1.1 ht.1.2 h1 (fun x hx => hs x (List.mem_append_left _ hx)) (fun x hx => hsp x (List.mem_append_left _ hx)),
      trodAll_stays hl (by simpa using ht.2) h2 (fun x hx => hs x (List.mem_append_right _ hx)) (fun x hx => hsp x (List.mem_append_right _ hx)), rfl⟩

/-- A law's post: it answers true, and memory has grown. -/
theorem law_post {f : Func} {s : ChangeSpec} {tb : TypeId} {W W' : World} {args : Array Value} {ds gs : List (DataW H)} {before : List MemPlace} (hl : laidOutB P = true)
    (hW : DataW.Whole enc P f.params.toList s.vars false W args.toList ds gs before) (hv : s.vars = [])
    (ht : (f.params.toList.all fun t => P.readableRec t && decide (t < P.types.size)) = true)
    (hr : f.resultTypes = #[tb]) (hb : P.underlying tb = some .bool)
    (hres : (s.fn H (ds ++ gs)).results = [.lit (.bool true)]) (hargs : (s.fn H (ds ++ gs)).args = ds) (hvars : (s.fn H (ds ++ gs)).vars = [])
    (hf : Fut W W') : s.post enc P f false true false false W args (.bool true) W' := by
  have hW0 := hW
  obtain ⟨p, q, hA, hV, rfl, hfz, _⟩ := hW
  rw [hv] at hV
  obtain ⟨rfl, rfl⟩ := trodVars_none hV
  have hlt : ∀ x ∈ p ++ [], x.block < W.heap.size := fun x hx => hW0.lt x hx
  have hold : ∀ x ∈ p ++ [], (fun b => decide (b < W.heap.size)) x.block = true := fun x hx => by simpa using hlt x hx
  have hA' : ∀ sp : Nat → Bool, (∀ x ∈ p ++ [], sp x.block = true) → DataW.TrodAll enc P W' 0 sp true f.params.toList args.toList ds p := fun sp hsp =>
    trodAll_stays hl ht hA (fun x hx => hf.same (hlt x (List.mem_append_left _ hx))) (fun x hx => hsp x (List.mem_append_left _ hx))
  have hres' : ∀ (b : Nat) (sp : Nat → Bool) (hd : Bool), DataW.TrodAll enc P W' b sp hd f.resultTypes.toList ((Value.bool true).resultList f.resultTypes.size) (s.fn H (ds ++ [])).results [] := fun b sp hd => by
    rw [hres, hr]
    exact trodAll_mk1 (shut_bool hb true)
  have hV' : ∀ sp : Nat → Bool, DataW.TrodVars enc P W' sp s.vars (s.fn H (ds ++ [])).vars [] := fun sp => by
    rw [hvars, hv]
    rfl
  have hA3 : ∀ sp : Nat → Bool, (∀ x ∈ p ++ [], sp x.block = true) → DataW.TrodAll enc P W' 0 sp true f.params.toList args.toList (s.fn H (ds ++ [])).args p := by rw [hargs]; exact hA'
  refine ⟨ds, [], p ++ [], [], p, [], hW0, hres' _ _ _, hA3 _ hold, hV' _, World.keptBut_mono (fun x hx => ⟨hx, Or.inr (List.mem_append.1 hx)⟩) (hf.frame (· ∈ p ++ [])), fun _ => ?_⟩
  refine ⟨?_, _, _, ([] ++ p) ++ [], ⟨[] ++ p, [], trodAll_append (hA3 _ (fun _ _ => rfl)) (hres' _ _ _), hV' _, rfl, ?_, fun h => by cases h⟩, ?_⟩
  · intro j t r hj hv'
    rw [hr] at hj hv'
    match j, hj, hv' with
    | 0, hj, hv' =>
      simp [Value.resultList] at hj hv'
      subst hj; subst hv'
      exact okWide_bool_mk hb true
  · intro b off hp
    have hin : MemPlace.cell b off ∈ p ++ [] := by simpa using hp
    rw [Below.frozen hf (hlt _ hin)]
    exact hfz b off hin
  · intro x hx _
    simpa using hx
end

/-- The reach, argument by argument. -/
theorem weights_arg {H : Type} {P : Program} {ts : List TypeId} {ds : List (DataW H)} (h : (DataW.weightsEach P ts ds).all (· ≤ reachBytes) = true) (j : Nat) {t : TypeId} {d : DataW H} (ht : ts[j]? = some t) (hd : ds[j]? = some d) : ∀ n ∈ d.weights P t, n ≤ reachBytes :=
  fun n hn => by simpa using List.all_eq_true.1 h n (DataW.weights_mem_each ht hd n hn)

/-! ### Data -/
/-- A list in a slice's memory: each element takes 'sz' cells, of which R tells what they hold; the capacity is at most M. -/
def SlRep {α : Type} (sz M : Nat) (R : World → List Value → α → Prop) (w : World) (v : Value) (xs : List α) : Prop :=
  ∃ (A : Option Addr) (cap : Nat), v = .slice A xs.length cap ∧ xs.length ≤ cap ∧ cap ≤ M ∧
    ∀ i x, xs[i]? = some x → ∃ b off cs, A = some ⟨b, off, none⟩ ∧ cs.length = sz ∧ (∀ j c, cs[j]? = some c → w.cell? ⟨b, off + (i * sz + j), none⟩ = some c) ∧ R w cs x
/-- What later memory does not turn. -/
def Stays {α : Type} (R : World → List Value → α → Prop) : Prop := ∀ w w' cs x, Fut w w' → R w cs x → R w' cs x
theorem SlRep.fut {α : Type} {sz M : Nat} {R : World → List Value → α → Prop} (hR : Stays R) {w w' : World} {v : Value} {xs : List α} (h : SlRep sz M R w v xs) (hf : Fut w w') : SlRep sz M R w' v xs := by
  obtain ⟨A, cap, hv, h1, h2, h3⟩ := h
  refine ⟨A, cap, hv, h1, h2, fun i x hx => ?_⟩
  obtain ⟨b, off, cs, hA, hl, hc, hr⟩ := h3 i x hx
  exact ⟨b, off, cs, hA, hl, fun j c hj => hf.cell (hc j c hj), hR _ _ _ _ hf hr⟩
theorem SlRep.more {α : Type} {sz M M' : Nat} {R : World → List Value → α → Prop} {w : World} {v : Value} {xs : List α} (h : SlRep sz M R w v xs) (hM : M ≤ M') : SlRep sz M' R w v xs := by
  obtain ⟨A, cap, hv, h1, h2, h3⟩ := h
  exact ⟨A, cap, hv, h1, by omega, h3⟩
theorem SlRep.imp {α : Type} {sz M : Nat} {R R' : World → List Value → α → Prop} {w : World} {v : Value} {xs : List α} (h : SlRep sz M R w v xs) (hR : ∀ cs x, R w cs x → R' w cs x) : SlRep sz M R' w v xs := by
  obtain ⟨A, cap, hv, h1, h2, h3⟩ := h
  refine ⟨A, cap, hv, h1, h2, fun i x hx => ?_⟩
  obtain ⟨b, off, cs, hA, hl, hc, hr⟩ := h3 i x hx
  exact ⟨b, off, cs, hA, hl, hc, hR _ _ hr⟩
theorem SlRep.form {α : Type} {sz M : Nat} {R : World → List Value → α → Prop} {w : World} {v : Value} {xs : List α} (h : SlRep sz M R w v xs) : ∃ A cap, v = .slice A xs.length cap ∧ xs.length ≤ cap ∧ cap ≤ M := by
  obtain ⟨A, cap, hv, h1, h2, _⟩ := h
  exact ⟨A, cap, hv, h1, h2⟩
theorem SlRep.len {α : Type} {sz M : Nat} {R : World → List Value → α → Prop} {w : World} {v : Value} {xs : List α} (h : SlRep sz M R w v xs) : xs.length ≤ M := by
  obtain ⟨A, cap, hv, h1, h2, _⟩ := h
  omega
/-- .. of cells: a slice is one cell. -/
def SlR {α : Type} (sz M : Nat) (R : World → List Value → α → Prop) (w : World) (cs : List Value) (xs : List α) : Prop := ∃ v, cs = [v] ∧ SlRep sz M R w v xs
theorem SlR.stays {α : Type} {sz M : Nat} {R : World → List Value → α → Prop} (hR : Stays R) : Stays (SlR sz M R) := fun _ _ _ _ hf ⟨v, h1, h2⟩ => ⟨v, h1, h2.fut hR hf⟩
theorem SlRep.nil {α : Type} {sz M : Nat} {R : World → List Value → α → Prop} {w : World} : SlRep sz M R w (.slice none 0 0) ([] : List α) :=
  ⟨none, 0, rfl, Nat.le_refl _, Nat.zero_le _, fun i x hx => by simp at hx⟩

/-- What a type's cells read as, within the form's own reach. -/
def Reads {α : Type} (P : Program) (t : TypeId) (R : World → List Value → α → Prop) : Prop :=
  ∀ (H : Type) (enc : TypeId × Value → H) (w : World) (base : Nat) (held : Bool) (fuel : Nat) (cs : List Value) (x : DataW H × List MemPlace), DataW.trod enc P w base (fun _ => true) held fuel t cs = some x →
    (∀ n ∈ x.1.weights P t, n ≤ reachBytes) → ∃ d, R w cs d
theorem Reads.imp {α : Type} {P : Program} {t : TypeId} {R R' : World → List Value → α → Prop} (h : Reads P t R) (hR : ∀ w cs d, R w cs d → R' w cs d) : Reads P t R' := fun H enc w base held fuel cs x hx hn => by
  obtain ⟨d, hd⟩ := h H enc w base held fuel cs x hx hn
  exact ⟨d, hR _ _ _ hd⟩

theorem exists_list {α : Type} {p : Nat → α → Prop} : ∀ n, (∀ i, i < n → ∃ x, p i x) → ∃ xs : List α, xs.length = n ∧ ∀ i x, xs[i]? = some x → p i x
  | 0, _ => ⟨[], rfl, fun i x hx => by simp at hx⟩
  | n + 1, h => by
    obtain ⟨xs, hl, hx⟩ := exists_list n fun i hi => h i (by omega)
    obtain ⟨y, hy⟩ := h n (by omega)
    refine ⟨xs ++ [y], by simp [hl], fun i x hi => ?_⟩
    rcases Nat.lt_or_ge i n with h' | h'
    · exact hx i x (by rwa [List.getElem?_append_left (by omega)] at hi)
    · rw [List.getElem?_append_right (by omega), hl] at hi
      have : i = n := by
        have := (List.getElem?_eq_some_iff.1 hi).1
        simp at this; omega
      subst this
      simp at hi
      rw [← hi]; exact hy

theorem weightsAll_mem {H : Type} {P : Program} {e : TypeId} : ∀ {ds : List (DataW H)} {d : DataW H}, d ∈ ds → ∀ n ∈ d.weights P e, n ∈ DataW.weightsAll P e ds
  | d0 :: r, d, hd, n, hn => by
    simp only [DataW.weightsAll, List.mem_append]
    rcases List.mem_cons.1 hd with rfl | h
    · exact .inl hn
    · exact .inr (weightsAll_mem h n hn)

theorem reads_slice {α : Type} {P : Program} {t e : TypeId} {sz M : Nat} {R : World → List Value → α → Prop} (ht : P.underlying t = some (.slice e)) (hc : P.cellsOf e = sz) (h0 : 0 < sz) (hM : ∀ c, c * P.bytesOf e ≤ reachBytes → c ≤ M) (hR : Reads P e R) : Reads P t (SlR sz M R) := by
  intro H enc w base held fuel cs x h hn
  rcases open_slice ht h with ⟨h1, _⟩ | ⟨a, len, cap, m, n, D, Pl, hcs, hb, hl, hm, hmm, hx, hi⟩
  · exact ⟨[], _, h1, SlRep.nil⟩
  · have hlm : len ≤ m := by rw [hmm]; simp; exact hl
    have hmc : m = cap := by rw [hmm]; simp
    have hw : x.1.weights P t = (len + (cap - len)) * P.bytesOf e :: (DataW.weightsAll P e ((List.range len).map D) ++ DataW.weightsAll P e ((List.range (m - len)).map fun j => D (len + j))) := by
      rw [hx]
      simp [DataW.weights, ht, hmc]
    have hcap : cap ≤ M := hM cap (by
      have := hn ((len + (cap - len)) * P.bytesOf e) (by rw [hw]; simp)
      rwa [show len + (cap - len) = cap by omega] at this)
    obtain ⟨xs, hxl, hxs⟩ := exists_list (p := fun i x => ∃ b off cs', some a = some ⟨b, off, none⟩ ∧ cs'.length = sz ∧ (∀ j c, cs'[j]? = some c → w.cell? ⟨b, off + (i * sz + j), none⟩ = some c) ∧ R w cs' x) len fun i hil => by
      obtain ⟨cs', h1, h2⟩ := hi i (by omega)
      obtain ⟨y, hy⟩ := hR H enc w base held n cs' _ h2 fun k hk => hn k (by
        rw [hw]
        refine List.mem_cons_of_mem _ (List.mem_append_left _ (weightsAll_mem (d := D i) ?_ k hk))
        exact List.mem_map.2 ⟨i, List.mem_range.2 hil, rfl⟩)
      rw [hc] at h1
      obtain ⟨_, hlen, hcell⟩ := World.cells?_some h1
      obtain ⟨ab, ao, asp⟩ := a
      have hsp : asp = none ∨ ∀ j, j < sz → False := by
        cases asp with
        | none => exact .inl rfl
        | some q =>
          right
          intro j hj
          have h0' := (hi 0 (by omega))
          obtain ⟨cs0, hz0, _⟩ := h0'
          rw [hc] at hz0
          obtain ⟨_, hlen0, hcell0⟩ := World.cells?_some hz0
          have := hcell0 0 h0
          rw [List.getElem?_eq_getElem (by omega)] at this
          unfold World.cell? Addr.add at this
          simp at this
          split at this <;> simp at this
      rcases hsp with rfl | hsp
      · refine ⟨y, ab, ao, cs', rfl, hlen, fun j c hj => ?_, hy⟩
        have hjl : j < sz := by rw [← hlen]; exact (List.getElem?_eq_some_iff.1 hj).1
        have := hcell j hjl
        rw [hj] at this
        rw [← this]
        congr 1
        unfold Addr.add
        by_cases h1' : i * sz = 0 <;> by_cases h2' : j = 0 <;> simp [h1', h2', Nat.add_assoc]
      · exact (hsp 0 h0).elim
    exact ⟨xs, _, hcs, some a, cap, by rw [hxl], by omega, hcap, hxs⟩

theorem reads_string {P : Program} {t : TypeId} (ht : P.underlying t = some .string) : Reads P t (fun _ cs (s : ByteArray) => cs = [.string s] ∧ s.size ≤ 140737488351232) := by
  intro H enc w base held fuel cs x h hn
  obtain ⟨s, h1, hx, h2⟩ := DataW.trod_string ht h
  refine ⟨s, h1, ?_⟩
  have := hn s.data.toList.length (by rw [hx]; simp [DataW.weights])
  simpa [reachBytes] using this
theorem reads_int {P : Program} {t : TypeId} {k : IntKind} (ht : P.underlying t = some (.int k)) : Reads P t (fun _ cs (n : Int) => cs = [.int k n] ∧ (Lit.int k n).wf = true) := by
  intro H enc w base held fuel cs x h _
  obtain ⟨s, h1, _, h2⟩ := DataW.trod_int ht h
  exact ⟨s, h1, h2⟩

theorem reads_field {α : Type} {P : Program} {f : Field} {R : World → List Value → α → Prop} {H : Type} {enc : TypeId × Value → H} {w : World} {base : Nat} {held : Bool} {t : TypeId} {fs : Array Field} {fuel : Nat} {cs : List Value} {x : DataW H × List MemPlace}
    (hs : P.underlying t = some (.struct fs)) (h : DataW.trod enc P w base (fun _ => true) held fuel t cs = some x) (hn : ∀ n ∈ x.1.weights P t, n ≤ reachBytes) (i : Nat) (hi : fs[i]? = some f) (hR : Reads P f.type R) :
    ∃ d, R w ((cs.drop f.offset).take (P.cellsOf f.type)) d := by
  obtain ⟨xs, n, _, hx, _, hl, hf⟩ := DataW.trod_struct hs h
  have h1 := hf i f hi
  have hil : i < fs.size := (Array.getElem?_eq_some_iff.1 hi).1
  have hxi : xs[i]? = some (xs[i]'(by omega)) := List.getElem?_eq_getElem (by omega)
  rw [hxi] at h1
  refine hR H enc w base held n _ _ h1 fun k hk => hn k ?_
  rw [hx]
  simp only [DataW.weights, hs]
  refine DataW.weights_mem_each (j := i) (t := f.type) (d := (xs[i]'(by omega)).1) ?_ (by simp [hxi]) k hk
  have : fs.toList[i]? = some f := by simpa using hi
  simp [this]
theorem reads_len {P : Program} {H : Type} {enc : TypeId × Value → H} {w : World} {base : Nat} {held : Bool} {t : TypeId} {fs : Array Field} {fuel : Nat} {cs : List Value} {x : DataW H × List MemPlace}
    (hs : P.underlying t = some (.struct fs)) (h : DataW.trod enc P w base (fun _ => true) held fuel t cs = some x) : cs.length = P.cellsOf t := by
  obtain ⟨_, _, _, _, hl, _, _⟩ := DataW.trod_struct hs h
  exact hl

/-- api.Value. -/
structure V where
  k : Int
  n : Int
  s : ByteArray
def V.ok (x : V) : Prop := (Lit.int .i8 x.k).wf = true ∧ (Lit.int .i64 x.n).wf = true ∧ x.s.size ≤ 140737488351232
def V.cells (x : V) : List Value := [.int .i8 x.k, .int .i64 x.n, .string x.s]
def V.val (x : V) : Value := .agg #[.int .i8 x.k, .int .i64 x.n, .string x.s]
def RV (_ : World) (cs : List Value) (x : V) : Prop := cs = x.cells ∧ x.ok
theorem RV.stays : Stays RV := fun _ _ _ _ _ h => h
/-- What an argument holds; what a contract asks. -/
abbrev ValsA : World → Value → List V → Prop := SlRep 3 4398046511104 RV
abbrev Vals : World → Value → List V → Prop := SlRep 3 9223372036854775807 RV
theorem ValsA.vals {w : World} {v : Value} {xs : List V} (h : ValsA w v xs) : Vals w v xs := h.more (by omega)
theorem reads_V {P : Program} {t : TypeId} {f0 f1 f2 : Field} (hs : P.underlying t = some (.struct #[f0, f1, f2])) (hC : P.cellsOf t = 3) (h0 : P.underlying f0.type = some (.int .i8)) (h1 : P.underlying f1.type = some (.int .i64)) (h2 : P.underlying f2.type = some .string)
    (o0 : f0.offset = 0) (o1 : f1.offset = 1) (o2 : f2.offset = 2) (c0 : P.cellsOf f0.type = 1) (c1 : P.cellsOf f1.type = 1) (c2 : P.cellsOf f2.type = 1) : Reads P t RV := by
  intro H enc w base held fuel cs x h hn
  have hl := (reads_len hs h).trans hC
  obtain ⟨k, e0, w0⟩ := reads_field hs h hn 0 rfl (reads_int h0)
  obtain ⟨n, e1, w1⟩ := reads_field hs h hn 1 rfl (reads_int h1)
  obtain ⟨s, e2, w2⟩ := reads_field hs h hn 2 rfl (reads_string h2)
  match cs, hl with
  | [a, b, c], _ =>
    simp [o0, o1, o2, c0, c1, c2] at e0 e1 e2
    exact ⟨⟨k, n, s⟩, by rw [e0, e1, e2]; rfl, w0, w1, w2⟩

/-- api.Fact: its name, its tuple, and the slice's value. -/
structure Fc where
  p : ByteArray
  a : List V
def RF (w : World) (cs : List Value) (x : Fc) : Prop := ∃ v, cs = [.string x.p, v] ∧ x.p.size ≤ 140737488351232 ∧ ValsA w v x.a
theorem RF.stays : Stays RF := fun _ _ _ _ hf ⟨v, h1, h2, h3⟩ => ⟨v, h1, h2, h3.fut RV.stays hf⟩
abbrev Facs : World → Value → List Fc → Prop := SlRep 2 3518437208883 RF
theorem reads_F {P : Program} {t : TypeId} {f0 f1 : Field} (hs : P.underlying t = some (.struct #[f0, f1])) (hC : P.cellsOf t = 2) (h0 : P.underlying f0.type = some .string) (h1 : Reads P f1.type (SlR 3 4398046511104 RV))
    (o0 : f0.offset = 0) (o1 : f1.offset = 1) (c0 : P.cellsOf f0.type = 1) (c1 : P.cellsOf f1.type = 1) : Reads P t RF := by
  intro H enc w base held fuel cs x h hn
  have hl := (reads_len hs h).trans hC
  obtain ⟨s, e0, w0⟩ := reads_field hs h hn 0 rfl (reads_string h0)
  obtain ⟨xs, v, e1, w1⟩ := reads_field hs h hn 1 rfl h1
  match cs, hl with
  | [a, b], _ =>
    simp [o0, o1, c0, c1] at e0 e1
    exact ⟨⟨s, xs⟩, v, by rw [e0, e1], w0, w1⟩

/-- An argument. -/
theorem reads_arg {α : Type} {P : Program} {t : TypeId} {R : World → List Value → α → Prop} (hR : Reads P t R) {H : Type} {enc : TypeId × Value → H} {w : World} {v : Value} {d : DataW H} {ps : List MemPlace} (h : DataW.Trod enc P w 0 (fun _ => true) true t v d ps) (hs : ∀ n ∈ d.weights P t, n ≤ reachBytes) :
    ∃ x, R w v.cells.toList x := by
  obtain ⟨n, hn⟩ := h
  exact hR H enc w 0 true n _ _ hn hs
theorem arg_struct {P : Program} {w : World} {r : Reach} {b : Nat} {t : TypeId} {fs : Array Field} {v : Value} (hs : P.underlying t = some (.struct fs)) (hv : Value.okWide P w r b t v) : ∃ cs, v = .agg cs := by
  obtain ⟨cs, h, _⟩ := okWide_struct hs hv
  exact ⟨cs, h⟩
theorem arg_V {w : World} {v : Value} {x : V} (h : RV w v.cells.toList x) (hv : ∃ cs, v = .agg cs) : v = x.val := by
  obtain ⟨⟨cs⟩, rfl⟩ := hv
  have h1 : cs = x.cells := by simpa [Value.cells] using h.1
  subst h1; rfl
theorem arg_F {w : World} {v : Value} {x : Fc} (h : RF w v.cells.toList x) (hv : ∃ cs, v = .agg cs) : ∃ u, v = .agg #[.string x.p, u] ∧ x.p.size ≤ 140737488351232 ∧ ValsA w u x.a := by
  obtain ⟨⟨cs⟩, rfl⟩ := hv
  obtain ⟨u, h1, h2, h3⟩ := h
  have h1 : cs = [.string x.p, u] := by simpa [Value.cells] using h1
  subst h1; exact ⟨u, rfl, h2, h3⟩
theorem arg_slice {α : Type} {P : Program} {sz M : Nat} {R : World → List Value → α → Prop} {w : World} {r : Reach} {b : Nat} {t e : TypeId} {v : Value} {xs : List α} (h : SlR sz M R w v.cells.toList xs) (ht : P.underlying t = some (.slice e)) (hv : Value.okWide P w r b t v) : SlRep sz M R w v xs := by
  obtain ⟨a, len, cap, rfl⟩ := okWide_slice ht hv
  obtain ⟨u, h1, h2⟩ := h
  simp [Value.cells] at h1
  rw [h1]; exact h2

/-- A slice literal of ints. -/
def RI (_ : World) (cs : List Value) (n : Int) : Prop := cs = [.int .i64 n]
theorem RI.stays : Stays RI := fun _ _ _ _ _ h => h
theorem ints_new (w : World) (e : TypeId) (xs : List Int) (hl : xs.length ≤ 17592186044416) : SlRep 1 17592186044416 RI (w.alloc (.cells (xs.map (Value.int .i64)).toArray e)) (.slice (some ⟨w.heap.size, 0, none⟩) xs.length xs.length) xs := by
  refine ⟨_, _, rfl, Nat.le_refl _, hl, fun i x hx => ⟨_, _, [.int .i64 x], rfl, rfl, fun j c hj => ?_, rfl⟩⟩
  have hj0 : j = 0 := by
    have := (List.getElem?_eq_some_iff.1 hj).1
    simp at this; omega
  subst hj0
  simp at hj
  subst hj
  rw [show 0 + (i * 1 + 0) = i by omega]
  refine (World.cell?_alloc_mark w _ e (0, 0) i).trans ?_
  simp [hx]

/-! ### A block of the call's own, cell by cell -/
def BlkF (w : World) (g : Nat) (t : TypeId) (N : Nat) (f : Nat → Value) : Prop :=
  ∃ arr : Array Value, w.heap[g]? = some (.cells arr t (0, 0)) ∧ arr.size = N ∧ ∀ j, j < N → arr[j]? = some (f j)
section
variable {w w' : World} {g N : Nat} {t : TypeId} {f : Nat → Value}
theorem BlkF.lt (h : BlkF w g t N f) : g < w.heap.size := by
  obtain ⟨arr, h1, _⟩ := h
  rcases Nat.lt_or_ge g w.heap.size with h' | h'
  · exact h'
  · rw [Array.getElem?_eq_none h'] at h1; cases h1
theorem BlkF.cell (h : BlkF w g t N f) {j : Nat} (hj : j < N) : w.cell? ⟨g, j, none⟩ = some (f j) := by
  obtain ⟨arr, h1, h2, h3⟩ := h
  simp [World.cell?, h1, h3 j hj]
theorem BlkF.free (h : BlkF w g t N f) (j : Nat) : w.frozen? ⟨g, j, none⟩ = false := by
  obtain ⟨arr, h1, _⟩ := h
  simp [World.frozen?, h1]
theorem BlkF.fut (h : BlkF w g t N f) (hf : Fut w w') : BlkF w' g t N f := by
  obtain ⟨arr, h1, h2⟩ := h
  exact ⟨arr, hf.block h1, h2⟩
theorem BlkF.congr {f' : Nat → Value} (h : BlkF w g t N f) (he : ∀ j, j < N → f j = f' j) : BlkF w g t N f' := by
  obtain ⟨arr, h1, h2, h3⟩ := h
  exact ⟨arr, h1, h2, fun j hj => by rw [h3 j hj, he j hj]⟩
theorem BlkF.set (h : BlkF w g t N f) (i : Nat) (v : Value) : BlkF (w.setCell ⟨g, i, none⟩ v) g t N (fun j => if j = i then v else f j) := by
  obtain ⟨arr, h1, h2, h3⟩ := h
  refine ⟨arr.setIfInBounds i v, ?_, by simp [h2], fun j hj => ?_⟩
  · simp [World.setCell, Array.getElem?_modify, h1]
  · by_cases hij : j = i
    · subst hij; simp [h2, hj]
    · rw [Array.getElem?_setIfInBounds_ne (Ne.symm hij), h3 j hj]; simp [hij]
theorem BlkF.far (h : BlkF w g t N f) {p : Addr} (hp : g ≠ p.block) (v : Value) : BlkF (w.setCell p v) g t N f := by
  obtain ⟨arr, h1, h2⟩ := h
  exact ⟨arr, (Below.heap_setCell w p v g hp).trans h1, h2⟩
theorem BlkF.alloc (h : BlkF w g t N f) (o : Obj) : BlkF (w.alloc o) g t N f := h.fut (Fut.alloc w o)
theorem BlkF.drew (h : BlkF w g t N f) : BlkF w.drew g t N f := h
theorem BlkF.new (w : World) (t : TypeId) (arr : Array Value) : BlkF (w.alloc (.cells arr t)) w.heap.size t arr.size (fun j => arr.getD j undef) :=
  ⟨arr, heap_alloc_new w _, rfl, fun j hj => by simp [hj]⟩
end

/-- The cells of a list of values, one behind the other. -/
def flat (xs : List V) (j : Nat) : Value := ((xs[j / 3]?).map fun x => x.cells.getD (j % 3) undef).getD undef
theorem flat_at (xs : List V) (k : Nat) (hk : k < xs.length) : flat xs (k * 3) = .int .i8 (xs[k]).k ∧ flat xs (k * 3 + 1) = .int .i64 (xs[k]).n ∧ flat xs (k * 3 + 2) = .string (xs[k]).s := by
  unfold flat
  rw [show k * 3 / 3 = k by omega, show (k * 3 + 1) / 3 = k by omega, show (k * 3 + 2) / 3 = k by omega, show k * 3 % 3 = 0 by omega, show (k * 3 + 1) % 3 = 1 by omega, show (k * 3 + 2) % 3 = 2 by omega, List.getElem?_eq_getElem hk]
  exact ⟨rfl, rfl, rfl⟩
/-- A list with a block of its own. -/
theorem vals_of_blk {w : World} {g t N cap : Nat} {xs : List V} {f : Nat → Value} (h : BlkF w g t N f) (hN : xs.length * 3 ≤ N) (hf : ∀ j, j < xs.length * 3 → f j = flat xs j) (hc : xs.length ≤ cap) (hm : cap ≤ 9223372036854775807) (hok : ∀ x ∈ xs, x.ok) :
    Vals w (.slice (some ⟨g, 0, none⟩) xs.length cap) xs := by
  refine ⟨_, _, rfl, hc, hm, fun i x hx => ⟨g, 0, x.cells, rfl, rfl, fun j c hj => ?_, rfl, hok x (List.mem_of_getElem? hx)⟩⟩
  have hil : i < xs.length := (List.getElem?_eq_some_iff.1 hx).1
  have hjl : j < 3 := (List.getElem?_eq_some_iff.1 hj).1
  rw [Nat.zero_add, h.cell (by omega), hf _ (by omega)]
  unfold flat
  rw [show (i * 3 + j) / 3 = i by omega, show (i * 3 + j) % 3 = j by omega, hx]
  simp [List.getD, hj]

theorem run_make_rowN {P : Program} (t e : TypeId) (i : TypeInfo) (z : Value) (ht : P.underlying t = some (.slice e)) (hi : P.info? e = some i) (hz : i.zero = some z)
    (kl kc : IntKind) (n c : Nat) (hnc : n ≤ c) (hbytes : i.bytes * c ≤ 281474976710656) (h63 : c ≤ 9223372036854775807) (w : World) :
    (Instr.makeSlice t (.int kl (n : Int)) (.int kc (c : Int))).run P w = .ok (.slice (some ⟨w.heap.size, 0, none⟩) n c) (w.alloc (.cells (madeCells z.cells (c * i.size)) e)) := by
  have hb : (i.bytes : Int) * (c : Int) ≤ 281474976710656 := by
    have h : ((i.bytes * c : Nat) : Int) ≤ 281474976710656 := by omega
    rwa [Int.natCast_mul] at h
  have hr := run_make (P := P) w t e i z ht hi hz kl kc n c (by omega) (by omega) hb (by omega)
  simp only [Int.toNat_natCast] at hr
  exact hr

end Go.Proofs.YtackadhamghblaaGreat
/- Rules as data: terms, expression trees, literals, heads' terms, rules; how they are read. -/
namespace Go.Proofs.YtackadhamghblaaGreat
open Go.RowKit Go.ChangeShapes Go.WideShapes Go.ChangeAt Go.Deep
set_option linter.unusedSimpArgs false
set_option linter.unusedVariables false

/-- Reads, of data smaller than k: for types that hold themselves. -/
def ReadsD {α : Type} (k : Nat) (P : Program) (t : TypeId) (R : World → List Value → α → Prop) : Prop :=
  ∀ (H : Type) (enc : TypeId × Value → H) (w : World) (base : Nat) (held : Bool) (fuel : Nat) (cs : List Value) (x : DataW H × List MemPlace), DataW.trod enc P w base (fun _ => true) held fuel t cs = some x →
    (∀ n ∈ x.1.weights P t, n ≤ reachBytes) → SizeOf.sizeOf x.1 < k → ∃ d, R w cs d
theorem readsD_of {α : Type} {P : Program} {t : TypeId} {R : World → List Value → α → Prop} (h : Reads P t R) (k : Nat) : ReadsD k P t R := fun H enc w base held fuel cs x hx hn _ => h H enc w base held fuel cs x hx hn
theorem reads_ofD {α : Type} {P : Program} {t : TypeId} {R : Nat → World → List Value → α → Prop} (h : ∀ k, ReadsD k P t (R k)) : Reads P t (fun w cs d => ∃ k, R k w cs d) := fun H enc w base held fuel cs x hx hn => by
  obtain ⟨d, hd⟩ := h _ H enc w base held fuel cs x hx hn (Nat.lt_succ_self _)
  exact ⟨d, _, hd⟩
theorem readsD_slice {α : Type} {P : Program} {t e : TypeId} {sz M : Nat} {R : World → List Value → α → Prop} (ht : P.underlying t = some (.slice e)) (hc : P.cellsOf e = sz) (h0 : 0 < sz) (hM : ∀ c, c * P.bytesOf e ≤ reachBytes → c ≤ M) {k : Nat} (hR : ReadsD k P e R) : ReadsD k P t (SlR sz M R) := by
  intro H enc w base held fuel cs x h hn hsz
  rcases open_slice ht h with ⟨h1, _⟩ | ⟨a, len, cap, m, n, D, Pl, hcs, hb, hl, hm, hmm, hx, hi⟩
  · exact ⟨[], _, h1, SlRep.nil⟩
  · have hlm : len ≤ m := by rw [hmm]; simp; exact hl
    have hmc : m = cap := by rw [hmm]; simp
    have hw : x.1.weights P t = (len + (cap - len)) * P.bytesOf e :: (DataW.weightsAll P e ((List.range len).map D) ++ DataW.weightsAll P e ((List.range (m - len)).map fun j => D (len + j))) := by
      rw [hx]
      simp [DataW.weights, ht, hmc]
    have hcap : cap ≤ M := hM cap (by
      have := hn ((len + (cap - len)) * P.bytesOf e) (by rw [hw]; simp)
      rwa [show len + (cap - len) = cap by omega] at this)
    obtain ⟨xs, hxl, hxs⟩ := exists_list (p := fun i x => ∃ b off cs', some a = some ⟨b, off, none⟩ ∧ cs'.length = sz ∧ (∀ j c, cs'[j]? = some c → w.cell? ⟨b, off + (i * sz + j), none⟩ = some c) ∧ R w cs' x) len fun i hil => by
      obtain ⟨cs', h1, h2⟩ := hi i (by omega)
      obtain ⟨y, hy⟩ := hR H enc w base held n cs' _ h2 (fun k hk => hn k (by
        rw [hw]
        refine List.mem_cons_of_mem _ (List.mem_append_left _ (weightsAll_mem (d := D i) ?_ k hk))
        exact List.mem_map.2 ⟨i, List.mem_range.2 hil, rfl⟩)) (Nat.lt_trans (by
          rw [hx]
          have h9 : SizeOf.sizeOf (D i) < SizeOf.sizeOf ((List.range len).map D) := List.sizeOf_lt_of_mem (List.mem_map.2 ⟨i, List.mem_range.2 hil, rfl⟩)
          show SizeOf.sizeOf (D i) < SizeOf.sizeOf (DataW.slice ((List.range len).map D) ((List.range (m - len)).map fun j => D (len + j)))
          rw [DataW.slice.sizeOf_spec]
          omega) hsz)
      rw [hc] at h1
      obtain ⟨_, hlen, hcell⟩ := World.cells?_some h1
      obtain ⟨ab, ao, asp⟩ := a
      have hsp : asp = none ∨ ∀ j, j < sz → False := by
        cases asp with
        | none => exact .inl rfl
        | some q =>
          right
          intro j hj
          have h0' := (hi 0 (by omega))
          obtain ⟨cs0, hz0, _⟩ := h0'
          rw [hc] at hz0
          obtain ⟨_, hlen0, hcell0⟩ := World.cells?_some hz0
          have := hcell0 0 h0
          rw [List.getElem?_eq_getElem (by omega)] at this
          unfold World.cell? Addr.add at this
          simp at this
          split at this <;> simp at this
      rcases hsp with rfl | hsp
      · refine ⟨y, ab, ao, cs', rfl, hlen, fun j c hj => ?_, hy⟩
        have hjl : j < sz := by rw [← hlen]; exact (List.getElem?_eq_some_iff.1 hj).1
        have := hcell j hjl
        rw [hj] at this
        rw [← this]
        congr 1
        unfold Addr.add
        by_cases h1' : i * sz = 0 <;> by_cases h2' : j = 0 <;> simp [h1', h2', Nat.add_assoc]
      · exact (hsp 0 h0).elim
    exact ⟨xs, _, hcs, some a, cap, by rw [hxl], by omega, hcap, hxs⟩

theorem readsD_field {α : Type} {P : Program} {f : Field} {R : World → List Value → α → Prop} {H : Type} {enc : TypeId × Value → H} {w : World} {base : Nat} {held : Bool} {t : TypeId} {fs : Array Field} {fuel : Nat} {cs : List Value} {x : DataW H × List MemPlace}
    (hs : P.underlying t = some (.struct fs)) (h : DataW.trod enc P w base (fun _ => true) held fuel t cs = some x) (hn : ∀ n ∈ x.1.weights P t, n ≤ reachBytes) (i : Nat) (hi : fs[i]? = some f) {k : Nat} (hk : SizeOf.sizeOf x.1 < k + 1) (hR : ReadsD k P f.type R) :
    ∃ d, R w ((cs.drop f.offset).take (P.cellsOf f.type)) d := by
  obtain ⟨xs, n, _, hx, _, hl, hf⟩ := DataW.trod_struct hs h
  have h1 := hf i f hi
  have hil : i < fs.size := (Array.getElem?_eq_some_iff.1 hi).1
  have hxi : xs[i]? = some (xs[i]'(by omega)) := List.getElem?_eq_getElem (by omega)
  rw [hxi] at h1
  have hsz : SizeOf.sizeOf (xs[i]'(by omega)).1 < k := by
    have h9 : SizeOf.sizeOf (xs[i]'(by omega)).1 < SizeOf.sizeOf (xs.map (·.1)) := List.sizeOf_lt_of_mem (List.mem_map.2 ⟨_, List.getElem_mem (by omega), rfl⟩)
    rw [hx, DataW.agg.sizeOf_spec] at hk
    omega
  refine hR H enc w base held n _ _ h1 (fun k hk => hn k ?_) hsz
  rw [hx]
  simp only [DataW.weights, hs]
  refine DataW.weights_mem_each (j := i) (t := f.type) (d := (xs[i]'(by omega)).1) ?_ (by simp [hxi]) k hk
  have : fs.toList[i]? = some f := by simpa using hi
  simp [this]

/-! ### Terms, trees -/
structure Tm where
  v : ByteArray
  x : V
def Tm.cells (t : Tm) : List Value := [.string t.v, .int .i8 t.x.k, .int .i64 t.x.n, .string t.x.s]
def Tm.ok (t : Tm) : Prop := t.v.size ≤ 140737488351232 ∧ t.x.ok
def RTm (_ : World) (cs : List Value) (t : Tm) : Prop := cs = t.cells ∧ t.ok
theorem RTm.stays : Stays RTm := fun _ _ _ _ _ h => h
inductive Ex where
  | mk (op : Int) (t : Tm) (kids : List Ex)
def RE : Nat → World → List Value → Ex → Prop
  | 0, _, _, _ => False
  | n + 1, w, cs, .mk op t kids => ∃ kv, cs = [.int .i8 op, .string t.v, .int .i8 t.x.k, .int .i64 t.x.n, .string t.x.s, kv] ∧ (Lit.int .i8 op).wf = true ∧ t.ok ∧ SlRep 6 1759218604441 (RE n) w kv kids
theorem RE.stays : ∀ n, Stays (RE n)
  | 0 => fun _ _ _ _ _ h => h
  | n + 1 => fun w w' cs x hf h => by
    obtain ⟨op, t, kids⟩ := x
    obtain ⟨kv, h1, h2, h3, h4⟩ := h
    exact ⟨kv, h1, h2, h3, h4.fut (RE.stays n) hf⟩
theorem RE.mono : ∀ {n m : Nat} (_ : n ≤ m) {w : World} {cs : List Value} {x : Ex}, RE n w cs x → RE m w cs x
  | 0, _, _, _, _, _, h => h.elim
  | n + 1, m, hm, w, cs, x, h => by
    obtain ⟨op, t, kids⟩ := x
    obtain ⟨m', rfl⟩ : ∃ m', m = m' + 1 := ⟨m - 1, by omega⟩
    obtain ⟨kv, h1, h2, h3, h4⟩ := h
    exact ⟨kv, h1, h2, h3, h4.imp fun cs x hx => RE.mono (by omega) hx⟩
def RX (w : World) (cs : List Value) (x : Ex) : Prop := ∃ n, RE n w cs x
theorem RX.stays : Stays RX := fun _ _ _ _ hf ⟨n, h⟩ => ⟨n, RE.stays n _ _ _ _ hf h⟩
structure Lt where
  k : Int
  p : ByteArray
  a : List Tm
  r : Int
  l : Ex
  d : Ex
def RLt (w : World) (cs : List Value) (x : Lt) : Prop :=
  ∃ av cl cd, cs = .int .i8 x.k :: .string x.p :: av :: .int .i8 x.r :: (cl ++ cd) ∧ cl.length = 6 ∧ cd.length = 6 ∧ (Lit.int .i8 x.k).wf = true ∧ (Lit.int .i8 x.r).wf = true ∧ x.p.size ≤ 140737488351232 ∧ SlRep 4 2932031007402 RTm w av x.a ∧ RX w cl x.l ∧ RX w cd x.d
theorem RLt.stays : Stays RLt := fun _ _ _ _ hf ⟨av, cl, cd, h1, h2, h3, h4, h5, h6, h7, h8, h9⟩ => ⟨av, cl, cd, h1, h2, h3, h4, h5, h6, h7.fut RTm.stays hf, RX.stays _ _ _ _ hf h8, RX.stays _ _ _ _ hf h9⟩
structure Ar where
  g : Int
  t : Tm
def RAr (_ : World) (cs : List Value) (x : Ar) : Prop := cs = .int .i8 x.g :: x.t.cells ∧ (Lit.int .i8 x.g).wf = true ∧ x.t.ok
theorem RAr.stays : Stays RAr := fun _ _ _ _ _ h => h
structure Ru where
  p : ByteArray
  h : List Ar
  b : List Lt
def RRu (w : World) (cs : List Value) (x : Ru) : Prop := ∃ hv bv, cs = [.string x.p, hv, bv] ∧ x.p.size ≤ 140737488351232 ∧ SlRep 5 2513169434916 RAr w hv x.h ∧ SlRep 16 651562446089 RLt w bv x.b
theorem RRu.stays : Stays RRu := fun _ _ _ _ hf ⟨hv, bv, h1, h2, h3, h4⟩ => ⟨hv, bv, h1, h2, h3.fut RAr.stays hf, h4.fut RLt.stays hf⟩
end Go.Proofs.YtackadhamghblaaGreat
/- Orders, plain: numbers, lists place by place. No program. -/
namespace Go.Proofs.YtackadhamghblaaGreat
open Go.RowKit
set_option linter.unusedSimpArgs false
set_option linter.unusedVariables false

def cmpI (a b : Int) : Int := if a < b then -1 else if b < a then 1 else 0
structure Ord3 {α : Type} (c : α → α → Int) : Prop where
  rng : ∀ x y, c x y = -1 ∨ c x y = 0 ∨ c x y = 1
  swap : ∀ x y, c y x = - c x y
  zero : ∀ x y, c x y = 0 ↔ x = y
  tr : ∀ x y z, c x y ≤ 0 → c y z ≤ 0 → c x z ≤ 0
theorem Ord3.refl {α : Type} {c : α → α → Int} (h : Ord3 c) (x : α) : c x x = 0 := (h.zero x x).2 rfl
theorem Ord3.lt {α : Type} {c : α → α → Int} (h : Ord3 c) {x y z : α} (h1 : c x y < 0) (h2 : c y z ≤ 0) : c x z < 0 := by
  have h3 := h.tr x y z (by omega) h2
  rcases Int.lt_or_eq_of_le h3 with h4 | h4
  · exact h4
  · have e := (h.zero x z).1 h4
    subst e
    have := h.swap x y
    omega
theorem Ord3.lt' {α : Type} {c : α → α → Int} (h : Ord3 c) {x y z : α} (h1 : c x y ≤ 0) (h2 : c y z < 0) : c x z < 0 := by
  have h3 := h.tr x y z h1 (by omega)
  rcases Int.lt_or_eq_of_le h3 with h4 | h4
  · exact h4
  · have e := (h.zero x z).1 h4
    subst e
    have := h.swap x y
    omega

def lex (a b : Int) : Int := if a ≠ 0 then a else b
theorem lex_ord {α β γ : Type} {c : α → α → Int} {d : β → β → Int} (hc : Ord3 c) (hd : Ord3 d) (p : γ → α) (q : γ → β) (hinj : ∀ x y, p x = p y → q x = q y → x = y) : Ord3 (fun x y : γ => lex (c (p x) (p y)) (d (q x) (q y))) := by
  constructor
  · intro x y
    unfold lex
    split
    · exact hc.rng _ _
    · exact hd.rng _ _
  · intro x y
    simp only [lex]
    rw [hc.swap (p x), hd.swap (q x)]
    by_cases h : c (p x) (p y) = 0 <;> simp [h]
  · intro x y
    simp only [lex]
    by_cases h : c (p x) (p y) = 0
    · simp only [h, ne_eq, not_true_eq_false, if_false]
      rw [hd.zero]
      exact ⟨hinj _ _ ((hc.zero _ _).1 h), fun e => by rw [e]⟩
    · simp only [ne_eq, h, not_false_eq_true, if_true]
      exact ⟨fun e => e.elim, fun e => by subst e; exact absurd (hc.refl _) h⟩
  · intro x y z h1 h2
    simp only [lex] at h1 h2 ⊢
    by_cases a : c (p x) (p y) = 0
    · by_cases b : c (p y) (p z) = 0
      · have e1 := (hc.zero _ _).1 a
        rw [e1, b]
        simp only [ne_eq, not_true_eq_false, if_false]
        rw [if_neg (by simpa using a)] at h1
        rw [if_neg (by simpa using b)] at h2
        exact hd.tr _ _ _ h1 h2
      · rw [if_pos b] at h2
        have := hc.lt' (x := p x) (y := p y) (z := p z) (by omega) (by omega)
        rw [if_pos (by omega)]
        omega
    · rw [if_pos a] at h1
      have hb : c (p y) (p z) ≤ 0 := by
        by_cases b : c (p y) (p z) = 0
        · omega
        · rwa [if_pos b] at h2
      have := hc.lt (x := p x) (y := p y) (z := p z) (by omega) hb
      rw [if_pos (by omega)]
      omega

theorem ordI : Ord3 cmpI := by
  constructor
  · intro x y; unfold cmpI; (repeat' split) <;> simp
  · intro x y; unfold cmpI; (repeat' split) <;> omega
  · intro x y; unfold cmpI; (repeat' split) <;> omega
  · intro x y z; unfold cmpI; (repeat' split) <;> omega

/-- Lists, place by place. -/
def lcmp {α : Type} (c : α → α → Int) : List α → List α → Int
  | [], [] => 0
  | [], _ :: _ => -1
  | _ :: _, [] => 1
  | x :: r, y :: q => if c x y ≠ 0 then c x y else lcmp c r q
section
variable {α : Type} {c : α → α → Int} (h : Ord3 c)
include h
theorem lcmp_rng : ∀ x y : List α, lcmp c x y = -1 ∨ lcmp c x y = 0 ∨ lcmp c x y = 1
  | [], [] => by simp [lcmp]
  | [], _ :: _ => by simp [lcmp]
  | _ :: _, [] => by simp [lcmp]
  | x :: r, y :: q => by
    simp only [lcmp]
    split
    · exact h.rng _ _
    · exact lcmp_rng r q
theorem lcmp_swap : ∀ x y : List α, lcmp c y x = - lcmp c x y
  | [], [] => rfl
  | [], _ :: _ => rfl
  | _ :: _, [] => rfl
  | x :: r, y :: q => by
    simp only [lcmp]
    rw [h.swap x y, lcmp_swap r q]
    by_cases a : c x y = 0 <;> simp [a]
theorem lcmp_zero : ∀ x y : List α, lcmp c x y = 0 ↔ x = y
  | [], [] => by simp [lcmp]
  | [], _ :: _ => by simp [lcmp]
  | _ :: _, [] => by simp [lcmp]
  | x :: r, y :: q => by
    simp only [lcmp]
    by_cases a : c x y = 0
    · simp only [a, ne_eq, not_true_eq_false, if_false, lcmp_zero r q, List.cons.injEq]
      exact ⟨fun e => ⟨(h.zero _ _).1 a, e⟩, fun e => e.2⟩
    · simp only [ne_eq, a, not_false_eq_true, if_true, List.cons.injEq]
      exact ⟨fun e => e.elim, fun e => absurd ((h.zero _ _).2 e.1) a⟩
theorem lcmp_tr : ∀ x y z : List α, lcmp c x y ≤ 0 → lcmp c y z ≤ 0 → lcmp c x z ≤ 0
  | [], _, [], _, _ => by simp [lcmp]
  | [], _, _ :: _, _, _ => by simp [lcmp]
  | _ :: _, [], _, h1, _ => by simp [lcmp] at h1
  | _ :: _, _ :: _, [], _, h2 => by simp [lcmp] at h2
  | x :: r, y :: q, z :: s, h1, h2 => by
    simp only [lcmp] at h1 h2 ⊢
    by_cases a : c x y = 0
    · by_cases b : c y z = 0
      · have e1 := (h.zero _ _).1 a
        rw [e1, b]
        simp only [ne_eq, not_true_eq_false, if_false]
        rw [if_neg (by simpa using a)] at h1
        rw [if_neg (by simpa using b)] at h2
        exact lcmp_tr r q s h1 h2
      · rw [if_pos b] at h2
        have := h.lt' (x := x) (y := y) (z := z) (by omega) (by omega)
        rw [if_pos (by omega)]
        omega
    · rw [if_pos a] at h1
      have hb : c y z ≤ 0 := by
        by_cases b : c y z = 0
        · omega
        · rwa [if_pos b] at h2
      have := h.lt (x := x) (y := y) (z := z) (by omega) hb
      rw [if_pos (by omega)]
      omega
theorem lcmp_ord : Ord3 (lcmp c) := ⟨lcmp_rng h, lcmp_swap h, lcmp_zero h, lcmp_tr h⟩
end

end Go.Proofs.YtackadhamghblaaGreat
/- Contracts of Go's library at this dump, out of the kit's shelf (lay-shelf.mjs, lay-plain.mjs), in plain words. -/
namespace Go.Proofs
open Go.Shelf
def Tryz.lays128_ren : Go.Shelf.Ren := ⟨fun | 128 => 84 | n => n, fun | 51 => 156 | 3 => 3 | 4 => 4 | 46 => 137 | 5 => 5 | 9 => 9 | n => n, fun | n => n⟩
theorem Tryz.lays128 : Go.Proofs.Lays.n128 Tryz.prog Tryz.lays128_ren := {
  mixed := by kernel_rfl
  f128 := Tryz.func84.trans (congrArg some (by kernel_rfl))
  t3 := Tryz.underlying3
  a3 := Tryz.isAgg3
  z3 := Tryz.sizeOf3
  v3 := Tryz.zeroValue3
  t4 := Tryz.underlying4
  a4 := Tryz.isAgg4
  z4 := Tryz.sizeOf4
  v4 := Tryz.zeroValue4
  t5 := Tryz.underlying5
  a5 := Tryz.isAgg5
  z5 := Tryz.sizeOf5
  v5 := Tryz.zeroValue5
  t9 := Tryz.underlying9
  a9 := Tryz.isAgg9
  z9 := Tryz.sizeOf9
  v9 := Tryz.zeroValue9
  t46 := Tryz.underlying137
  a46 := Tryz.isAgg137
  z46 := Tryz.sizeOf137
  v46 := Tryz.zeroValue137
  t51 := Tryz.underlying156
  a51 := Tryz.isAgg156
  z51 := Tryz.sizeOf156
  v51 := Tryz.zeroValue156 }

theorem Tryz.bits_Len32 (x : Int) (w : World) (h0 : 0 ≤ x) (h1 : x ≤ 4294967295) :
    Calls Tryz.prog 84 #[.int .u32 x] w fun e w' => e = .returned (.int .i64 (Lib.bitLen x.toNat)) ∧ w' = w := Any.bits_Len32 Tryz.lays128 x w h0 h1
def Tryz.lays125_ren : Go.Shelf.Ren := ⟨fun | 125 => 66 | 128 => 84 | 129 => 85 | n => n, fun | 46 => 137 | 3 => 3 | 51 => 156 | 53 => 158 | 4 => 4 | 5 => 5 | 9 => 9 | n => n, fun | n => n⟩
theorem Tryz.lays125 : Go.Proofs.Lays.n125 Tryz.prog Tryz.lays125_ren := {
  mixed := by kernel_rfl
  f125 := Tryz.func66.trans (congrArg some (by kernel_rfl))
  f128 := Tryz.func84.trans (congrArg some (by kernel_rfl))
  f129 := Tryz.func85.trans (congrArg some (by kernel_rfl))
  t3 := Tryz.underlying3
  a3 := Tryz.isAgg3
  z3 := Tryz.sizeOf3
  v3 := Tryz.zeroValue3
  t4 := Tryz.underlying4
  a4 := Tryz.isAgg4
  z4 := Tryz.sizeOf4
  v4 := Tryz.zeroValue4
  t5 := Tryz.underlying5
  a5 := Tryz.isAgg5
  z5 := Tryz.sizeOf5
  v5 := Tryz.zeroValue5
  t9 := Tryz.underlying9
  a9 := Tryz.isAgg9
  z9 := Tryz.sizeOf9
  v9 := Tryz.zeroValue9
  t46 := Tryz.underlying137
  a46 := Tryz.isAgg137
  z46 := Tryz.sizeOf137
  v46 := Tryz.zeroValue137
  t51 := Tryz.underlying156
  a51 := Tryz.isAgg156
  z51 := Tryz.sizeOf156
  v51 := Tryz.zeroValue156
  t53 := Tryz.underlying158
  a53 := Tryz.isAgg158
  z53 := Tryz.sizeOf158
  v53 := Tryz.zeroValue158 }

theorem Tryz.bits_Len (x : Int) (w : World) (h0 : 0 ≤ x) (h1 : x ≤ 18446744073709551615) :
    Calls Tryz.prog 66 #[.int .u64 x] w fun e w' => e = .returned (.int .i64 (Lib.bitLen x.toNat)) ∧ w' = w := Any.bits_Len Tryz.lays125 x w h0 h1
def Tryz.lays213_ren : Go.Shelf.Ren := ⟨fun | 213 => 47 | 265 => 67 | n => n, fun | 9 => 9 | 3 => 3 | n => n, fun | n => n⟩
theorem Tryz.lays213 : Go.Proofs.Lays.n213 Tryz.prog Tryz.lays213_ren := {
  mixed := by kernel_rfl
  f213 := Tryz.func47.trans (congrArg some (by kernel_rfl))
  f265 := Tryz.func67.trans (congrArg some (by kernel_rfl))
  t3 := Tryz.underlying3
  a3 := Tryz.isAgg3
  z3 := Tryz.sizeOf3
  v3 := Tryz.zeroValue3
  t9 := Tryz.underlying9
  a9 := Tryz.isAgg9
  z9 := Tryz.sizeOf9
  v9 := Tryz.zeroValue9 }
open Go.RowKit in

theorem Tryz.bytealg_CompareString (a b : ByteArray) (w : World) :
    Calls Tryz.prog 47 #[.string a, .string b] w fun e w' => e = .returned (.int .i64 (Lib.compareBytes a.data.toList b.data.toList)) ∧ w' = w := Any.bytealg_CompareString Tryz.lays213 a b w
def Tryz.lays106_ren : Go.Shelf.Ren := ⟨fun | 106 => 26 | 213 => 47 | 265 => 67 | n => n, fun | 9 => 9 | 3 => 3 | n => n, fun | n => n⟩
theorem Tryz.lays106 : Go.Proofs.Lays.n106 Tryz.prog Tryz.lays106_ren := {
  mixed := by kernel_rfl
  f106 := Tryz.func26.trans (congrArg some (by kernel_rfl))
  f213 := Tryz.func47.trans (congrArg some (by kernel_rfl))
  f265 := Tryz.func67.trans (congrArg some (by kernel_rfl))
  t3 := Tryz.underlying3
  a3 := Tryz.isAgg3
  z3 := Tryz.sizeOf3
  v3 := Tryz.zeroValue3
  t9 := Tryz.underlying9
  a9 := Tryz.isAgg9
  z9 := Tryz.sizeOf9
  v9 := Tryz.zeroValue9 }
open Go.RowKit in

theorem Tryz.strings_Compare (a b : ByteArray) (w : World) :
    Calls Tryz.prog 26 #[.string a, .string b] w fun e w' => e = .returned (.int .i64 (Lib.compareBytes a.data.toList b.data.toList)) ∧ w' = w := Any.strings_Compare Tryz.lays106 a b w
def Tryz.lays129_ren : Go.Shelf.Ren := ⟨fun | 129 => 85 | n => n, fun | 53 => 158 | 3 => 3 | 4 => 4 | 46 => 137 | 5 => 5 | 9 => 9 | n => n, fun | n => n⟩
theorem Tryz.lays129 : Go.Proofs.Lays.n129 Tryz.prog Tryz.lays129_ren := {
  mixed := by kernel_rfl
  f129 := Tryz.func85.trans (congrArg some (by kernel_rfl))
  t3 := Tryz.underlying3
  a3 := Tryz.isAgg3
  z3 := Tryz.sizeOf3
  v3 := Tryz.zeroValue3
  t4 := Tryz.underlying4
  a4 := Tryz.isAgg4
  z4 := Tryz.sizeOf4
  v4 := Tryz.zeroValue4
  t5 := Tryz.underlying5
  a5 := Tryz.isAgg5
  z5 := Tryz.sizeOf5
  v5 := Tryz.zeroValue5
  t9 := Tryz.underlying9
  a9 := Tryz.isAgg9
  z9 := Tryz.sizeOf9
  v9 := Tryz.zeroValue9
  t46 := Tryz.underlying137
  a46 := Tryz.isAgg137
  z46 := Tryz.sizeOf137
  v46 := Tryz.zeroValue137
  t53 := Tryz.underlying158
  a53 := Tryz.isAgg158
  z53 := Tryz.sizeOf158
  v53 := Tryz.zeroValue158 }

theorem Tryz.bits_Len64 (x : Int) (w : World) (h0 : 0 ≤ x) (h1 : x ≤ 18446744073709551615) :
    Calls Tryz.prog 85 #[.int .u64 x] w fun e w' => e = .returned (.int .i64 (Lib.bitLen x.toNat)) ∧ w' = w := Any.bits_Len64 Tryz.lays129 x w h0 h1
def Tryz.lays190_ren : Go.Shelf.Ren := ⟨fun | 190 => 61 | 125 => 66 | 258 => 75 | 128 => 84 | 129 => 85 | 302 => 92 | 303 => 93 | 304 => 94 | 305 => 95 | 306 => 96 | 307 => 97 | 308 => 98 | 309 => 99 | 310 => 100 | 333 => 110 | 329 => 102 | 330 => 103 | 334 => 111 | 335 => 112 | 336 => 113 | 344 => 120 | n => n, fun | 31 => 37 | 9 => 9 | 3 => 3 | 46 => 137 | 0 => 0 | 51 => 156 | 53 => 158 | 4 => 4 | 183 => 150 | 182 => 149 | 131 => 103 | 5 => 5 | 218 => 171 | 222 => 175 | 228 => 183 | 229 => 184 | n => n, fun | n => n⟩
theorem Tryz.lays190 : Go.Proofs.Lays.n190 Tryz.prog Tryz.lays190_ren := {
  mixed := by kernel_rfl
  f125 := Tryz.func66.trans (congrArg some (by kernel_rfl))
  f128 := Tryz.func84.trans (congrArg some (by kernel_rfl))
  f129 := Tryz.func85.trans (congrArg some (by kernel_rfl))
  f190 := Tryz.func61.trans (congrArg some (by kernel_rfl))
  f258 := Tryz.func75.trans (congrArg some (by kernel_rfl))
  f302 := Tryz.func92.trans (congrArg some (by kernel_rfl))
  f303 := Tryz.func93.trans (congrArg some (by kernel_rfl))
  f304 := Tryz.func94.trans (congrArg some (by kernel_rfl))
  f305 := Tryz.func95.trans (congrArg some (by kernel_rfl))
  f306 := Tryz.func96.trans (congrArg some (by kernel_rfl))
  f307 := Tryz.func97.trans (congrArg some (by kernel_rfl))
  f308 := Tryz.func98.trans (congrArg some (by kernel_rfl))
  f309 := Tryz.func99.trans (congrArg some (by kernel_rfl))
  f310 := Tryz.func100.trans (congrArg some (by kernel_rfl))
  f329 := Tryz.func102.trans (congrArg some (by kernel_rfl))
  f330 := Tryz.func103.trans (congrArg some (by kernel_rfl))
  f333 := Tryz.func110.trans (congrArg some (by kernel_rfl))
  f334 := Tryz.func111.trans (congrArg some (by kernel_rfl))
  f335 := Tryz.func112.trans (congrArg some (by kernel_rfl))
  f336 := Tryz.func113.trans (congrArg some (by kernel_rfl))
  f344 := Tryz.func120.trans (congrArg some (by kernel_rfl))
  t0 := Tryz.underlying0
  a0 := Tryz.isAgg0
  z0 := Tryz.sizeOf0
  v0 := Tryz.zeroValue0
  t3 := Tryz.underlying3
  a3 := Tryz.isAgg3
  z3 := Tryz.sizeOf3
  v3 := Tryz.zeroValue3
  t4 := Tryz.underlying4
  a4 := Tryz.isAgg4
  z4 := Tryz.sizeOf4
  v4 := Tryz.zeroValue4
  t5 := Tryz.underlying5
  a5 := Tryz.isAgg5
  z5 := Tryz.sizeOf5
  v5 := Tryz.zeroValue5
  t9 := Tryz.underlying9
  a9 := Tryz.isAgg9
  z9 := Tryz.sizeOf9
  v9 := Tryz.zeroValue9
  t31 := Tryz.underlying37
  a31 := Tryz.isAgg37
  z31 := Tryz.sizeOf37
  v31 := Tryz.zeroValue37
  t46 := Tryz.underlying137
  a46 := Tryz.isAgg137
  z46 := Tryz.sizeOf137
  v46 := Tryz.zeroValue137
  t51 := Tryz.underlying156
  a51 := Tryz.isAgg156
  z51 := Tryz.sizeOf156
  v51 := Tryz.zeroValue156
  t53 := Tryz.underlying158
  a53 := Tryz.isAgg158
  z53 := Tryz.sizeOf158
  v53 := Tryz.zeroValue158
  t131 := Tryz.underlying103
  a131 := Tryz.isAgg103
  z131 := Tryz.sizeOf103
  v131 := Tryz.zeroValue103
  t182 := Tryz.underlying149
  a182 := Tryz.isAgg149
  z182 := Tryz.sizeOf149
  v182 := Tryz.zeroValue149
  t183 := Tryz.underlying150
  a183 := Tryz.isAgg150
  z183 := Tryz.sizeOf150
  v183 := Tryz.zeroValue150
  t218 := Tryz.underlying171
  a218 := Tryz.isAgg171
  z218 := Tryz.sizeOf171
  v218 := Tryz.zeroValue171
  t222 := Tryz.underlying175
  a222 := Tryz.isAgg175
  z222 := Tryz.sizeOf175
  v222 := Tryz.zeroValue175
  t228 := Tryz.underlying183
  a228 := Tryz.isAgg183
  z228 := Tryz.sizeOf183
  v228 := Tryz.zeroValue183
  t229 := Tryz.underlying184
  a229 := Tryz.isAgg184
  z229 := Tryz.sizeOf184
  v229 := Tryz.zeroValue184 }
open Go.Sort Go.RowKit in
theorem Tryz.slices_Sort_string (blk off cap : Nat) (ss : List (List UInt8)) (w : World) (hH : Holds encStr w blk off ss.toArray) (hblk : blk < w.heap.size) (hsz : ss.length < 4611686018427387904) :
    Calls Tryz.prog 61 #[.slice (some ⟨blk, off, none⟩) ss.length cap] w fun e w' =>
      e = .returned (.tuple #[]) ∧ ∃ n os, w' = grow (putRow encStr (Sort.ahead w n) blk off (ss.mergeSort fun x y => decide (x ≤ y)).toArray) os := Any.slices_Sort_string Tryz.lays190 blk off cap ss w hH hblk hsz
def Tryz.lays109_ren : Go.Shelf.Ren := ⟨fun | 109 => 40 | n => n, fun | 31 => 37 | 9 => 9 | 3 => 3 | 0 => 0 | 4 => 4 | n => n, fun | n => n⟩
theorem Tryz.lays109 : Go.Proofs.Lays.n109 Tryz.prog Tryz.lays109_ren := {
  mixed := by kernel_rfl
  f109 := Tryz.func40.trans (congrArg some (by kernel_rfl))
  t0 := Tryz.underlying0
  a0 := Tryz.isAgg0
  z0 := Tryz.sizeOf0
  v0 := Tryz.zeroValue0
  t3 := Tryz.underlying3
  a3 := Tryz.isAgg3
  z3 := Tryz.sizeOf3
  v3 := Tryz.zeroValue3
  t4 := Tryz.underlying4
  a4 := Tryz.isAgg4
  z4 := Tryz.sizeOf4
  v4 := Tryz.zeroValue4
  t9 := Tryz.underlying9
  a9 := Tryz.isAgg9
  z9 := Tryz.sizeOf9
  v9 := Tryz.zeroValue9
  t31 := Tryz.underlying37
  a31 := Tryz.isAgg37
  z31 := Tryz.sizeOf37
  v31 := Tryz.zeroValue37 }
open Go.Lib in

theorem Tryz.slices_Index_string (b off n c : Nat) (zs : List ByteArray) (x : ByteArray) (w : World) (hz : n ≤ zs.length) (hbig : n ≤ 9223372036854775807) (hc : ∀ j, j < zs.length → w.cell? ⟨b, off + j, none⟩ = some (.string (zs.getD j ByteArray.empty))) :
    Calls Tryz.prog 40 #[.slice (some ⟨b, off, none⟩) n c, .string x] w fun e w' => e = .returned (.int .i64 (Lib.idxOfS (zs.take n) x)) ∧ w' = w := Any.slices_Index_string Tryz.lays109 b off n c zs x w hz hbig hc
open Go.Lib in

theorem Tryz.slices_Index_string_empty (a : Option Addr) (c : Nat) (x : ByteArray) (w : World) :
    Calls Tryz.prog 40 #[.slice a 0 c, .string x] w fun e w' => e = .returned (.int .i64 (Lib.idxOfS [] x)) ∧ w' = w := Any.slices_Index_string_empty Tryz.lays109 a c x w
open Go.RowKit Go.Sort in

theorem Tryz.slices_Sort_string_none (p : Option Addr) (cap : Nat) (w : World) :
    Calls Tryz.prog 61 #[.slice p 0 cap] w fun e w' => e = .returned (.tuple #[]) ∧ w' = w := Any.slices_Sort_string_none Tryz.lays190 p cap w
end Go.Proofs
/- Comparisons: cmp.Compare, cmp.Or, value.Compare, the reference's Compare; value.Holds, the reference's Holds. -/
namespace Go.Proofs.YtackadhamghblaaGreat
open Go.RowKit
set_option linter.unusedSimpArgs false
set_option linter.unusedVariables false

theorem cellsV : Tryz.prog.cellsOf 63 = 3 := by kernel_rfl
theorem bytesV : Tryz.prog.bytesOf 63 = 32 := by kernel_rfl
/-- What an api.Value reads as; a list of them. -/
theorem rV : Reads Tryz.prog 63 RV := reads_V Tryz.underlying63 (by kernel_rfl) Tryz.underlying61 Tryz.underlying2 Tryz.underlying9 rfl rfl rfl (by kernel_rfl) (by kernel_rfl) (by kernel_rfl)
/-- What a Check answers. -/
def chk (k n : Int) (s : ByteArray) : Int := if (k == 1) = true ∧ s.toList.isEmpty = true then 0 else if (k == 2) = true ∧ n = 0 ∧ s.size ≤ 200 then 0 else 10

set_option maxHeartbeats 400000 in
theorem check_any (k n : Int) (s : ByteArray) (w : World) (hs : s.size ≤ 140737488351232) :
    Calls Tryz.prog 115 #[.agg #[.int .i8 k, .int .i64 n, .string s]] w fun e w' => e = .returned (.int .i64 (chk k n s)) ∧ Fut w w' := by
  go_enter Tryz.func115, Tryz.ntmps115
  go_wp2
  all_goals go_ret
  all_goals refine ⟨?_, Fut.alloc _ _⟩
  all_goals (congr 2; unfold chk)
  all_goals simp_all
  all_goals omega
def firstNZ : List Int → Int
  | [] => 0
  | a :: r => if a ≠ 0 then a else firstNZ r
theorem firstNZ_drop (xs : List Int) (k : Nat) (h : ∀ i, i < k → xs.getD i 0 = 0) : firstNZ xs = firstNZ (xs.drop k) := by
  induction k generalizing xs with
  | zero => rfl
  | succ k ih =>
    cases xs with
    | nil => rfl
    | cons a r =>
      have h0 : a = 0 := by simpa using h 0 (by omega)
      rw [firstNZ, if_neg (by simpa using h0), List.drop_succ_cons]
      exact ih r fun i hi => by simpa using h (i + 1) (by omega)

/-! ### The order of values -/
theorem cmpBytes_swap : ∀ a b : List UInt8, Lib.compareBytes b a = - Lib.compareBytes a b
  | [], [] => rfl
  | [], _ :: _ => rfl
  | _ :: _, [] => rfl
  | a :: r, b :: q => by
    simp only [Lib.compareBytes]
    by_cases h1 : a < b
    · have h2 : ¬ b < a := UInt8.not_lt.2 (UInt8.le_of_lt h1)
      simp [h1, h2]
    · by_cases h2 : b < a
      · simp [h1, h2]
      · simp only [h1, h2, if_false]; exact cmpBytes_swap r q
theorem cmpBytes_less : ∀ a b : List UInt8, Op.bytesLess a b = decide (Lib.compareBytes a b < 0)
  | [], [] => rfl
  | [], _ :: _ => rfl
  | _ :: _, [] => rfl
  | a :: r, b :: q => by
    simp only [Lib.compareBytes, Op.bytesLess]
    by_cases h1 : a < b
    · simp [h1]
    · by_cases h2 : b < a
      · have hne : ¬ a = b := fun e => by subst e; exact absurd h2 (UInt8.lt_irrefl _)
        simp [h1, h2, hne]
      · have he : a = b := UInt8.le_antisymm (UInt8.not_lt.1 h2) (UInt8.not_lt.1 h1)
        subst he
        simp [h1, cmpBytes_less r q]
theorem cmpBytes_zero : ∀ a b : List UInt8, Lib.compareBytes a b = 0 ↔ a = b
  | [], [] => by simp [Lib.compareBytes]
  | [], _ :: _ => by simp [Lib.compareBytes]
  | _ :: _, [] => by simp [Lib.compareBytes]
  | a :: r, b :: q => by
    simp only [Lib.compareBytes]
    by_cases h1 : a < b
    · have hne : ¬ a = b := fun e => by subst e; exact absurd h1 (UInt8.lt_irrefl _)
      simp [h1, hne]
    · by_cases h2 : b < a
      · have hne : ¬ a = b := fun e => by subst e; exact absurd h2 (UInt8.lt_irrefl _)
        simp [h1, h2, hne]
      · have he : a = b := UInt8.le_antisymm (UInt8.not_lt.1 h2) (UInt8.not_lt.1 h1)
        subst he
        simp [h1, cmpBytes_zero r q]
theorem cmpBytes_range : ∀ a b : List UInt8, Lib.compareBytes a b = -1 ∨ Lib.compareBytes a b = 0 ∨ Lib.compareBytes a b = 1
  | [], [] => by simp [Lib.compareBytes]
  | [], _ :: _ => by simp [Lib.compareBytes]
  | _ :: _, [] => by simp [Lib.compareBytes]
  | a :: r, b :: q => by
    simp only [Lib.compareBytes]
    by_cases h1 : a < b
    · simp [h1]
    · by_cases h2 : b < a
      · simp [h1, h2]
      · simp only [h1, h2, if_false]; exact cmpBytes_range r q

theorem bytesLess_irrefl (a : List UInt8) : Op.bytesLess a a = false := by rw [cmpBytes_less, (cmpBytes_zero a a).2 rfl]; rfl
def cmpS (a b : ByteArray) : Int := Lib.compareBytes a.data.toList b.data.toList
def cmpV (x y : V) : Int := firstNZ [cmpI x.k y.k, cmpI x.n y.n, cmpS x.s y.s]

theorem cmpV_spec (k n : Int) (s : ByteArray) (k' n' : Int) (s' : ByteArray) : cmpV ⟨k, n, s⟩ ⟨k', n', s'⟩ =
    if k < k' then -1 else if k' < k then 1 else if n < n' then -1 else if n' < n then 1 else if Op.bytesLess s.toList s'.toList = true then -1 else if s.toList = s'.toList then 0 else 1 := by
  rw [cmpBytes_less, ByteArray.toList_eq, ByteArray.toList_eq]
  unfold cmpV cmpI cmpS
  simp only [decide_eq_true_eq, firstNZ]
  by_cases h1 : k < k'
  · simp [h1]
  · by_cases h2 : k' < k
    · simp [h1, h2]
    · by_cases h3 : n < n'
      · simp [h1, h2, h3]
      · by_cases h4 : n' < n
        · simp [h1, h2, h3, h4]
        · simp only [h1, h2, h3, h4, if_false, ne_eq, not_true_eq_false, ite_self]
          rcases cmpBytes_range s.data.toList s'.data.toList with h | h | h
          · simp [h]
          · rw [(cmpBytes_zero _ _).1 h]; simp [(cmpBytes_zero s'.data.toList s'.data.toList).2 rfl]
          · have hne : ¬ s.data.toList = s'.data.toList := fun e => by rw [(cmpBytes_zero _ _).2 e] at h; cases h
            simp [h, hne]
def holdsV (r : Int) (x y : V) : Bool :=
  chk x.k x.n x.s == 0 && chk y.k y.n y.s == 0 && (if r = 1 then cmpV x y == 0 else if r = 2 then cmpV x y != 0 else if r = 3 then decide (cmpV x y < 0) else if r = 4 then decide (cmpV x y ≤ 0) else if r = 5 then decide (cmpV x y > 0) else if r = 6 then decide (cmpV x y ≥ 0) else false)

end Go.Proofs.YtackadhamghblaaGreat
