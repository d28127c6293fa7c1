/-
  What the arguments' memory holds, as plain data: lists, structs; how it is read off the form's own reading; and the last step of every law that answers true and leaves what was there as it was.
-/
import Derived.Test.YtcekphjcmippoaaGraph
import Derived.ProofKit
import Derived.WideKeyArgs
import Derived.Deep.Slices
import Derived.Carry
import Derived.Laws.IdiomStrings
import Derived.Laws.MakeOwn
import Derived.Laws.Entries
import Derived.SizedLaws
namespace Go.Proofs.Ytcekphjcmippoaa
open Go.RowKit Go.ChangeShapes Go.WideShapes Go.ChangeAt Go.Deep

/-! ### The row's last step -/
section
variable {H : Type} {enc : TypeId × Value → H} {P : Program}

theorem trodAll_stays (hl : laidOutB P = true) {W W' : World} {sp' : Nat → Bool} : ∀ {ts : List TypeId} {vs : List Value} {ds : List (DataW H)} {ps : List MemPlace},
    (ts.all fun t => P.readableRec t && decide (t < P.types.size)) = true → DataW.TrodAll enc P W 0 (fun _ => true) true ts vs ds ps → (∀ p ∈ ps, W.sameAt W' p) → (∀ p ∈ ps, sp' p.block = true) →
    DataW.TrodAll enc P W' 0 sp' true ts vs ds ps
  | [], [], [], ps, _, h, _, _ => h
  | [], _ :: _, _, _, _, h, _, _ => by simp [DataW.TrodAll] at h
  | [], [], _ :: _, _, _, h, _, _ => by simp [DataW.TrodAll] at h
  | t :: ts, [], _, _, _, h, _, _ => by simp [DataW.TrodAll] at h
  | t :: ts, v :: vs, [], _, _, h, _, _ => by simp [DataW.TrodAll] at h
  | t :: ts, v :: vs, d :: ds, ps, ht, h, hs, hsp => by
    obtain ⟨p, q, h1, h2, rfl⟩ := h
    simp only [List.all_cons, Bool.and_eq_true, decide_eq_true_eq] at ht
    exact ⟨p, q, WideElems.Trod_stays hl ht.1.1 ht.1.2 h1 (fun x hx => hs x (List.mem_append_left _ hx)) (fun x hx => hsp x (List.mem_append_left _ hx)),
      trodAll_stays hl (by simpa using ht.2) h2 (fun x hx => hs x (List.mem_append_right _ hx)) (fun x hx => hsp x (List.mem_append_right _ hx)), rfl⟩

/-- A law's post: it answers true, and memory has grown. -/
theorem law_post {f : Func} {s : ChangeSpec} {tb : TypeId} {W W' : World} {args : Array Value} {ds gs : List (DataW H)} {before : List MemPlace} (hl : laidOutB P = true)
    (hW : DataW.Whole enc P f.params.toList s.vars false W args.toList ds gs before) (hv : s.vars = [])
    (ht : (f.params.toList.all fun t => P.readableRec t && decide (t < P.types.size)) = true)
    (hr : f.resultTypes = #[tb]) (hb : P.underlying tb = some .bool)
    (hres : (s.fn H (ds ++ gs)).results = [.lit (.bool true)]) (hargs : (s.fn H (ds ++ gs)).args = ds) (hvars : (s.fn H (ds ++ gs)).vars = [])
    (hf : Fut W W') : s.post enc P f false true false false W args (.bool true) W' := by
  have hW0 := hW
  obtain ⟨p, q, hA, hV, rfl, hfz, _⟩ := hW
  rw [hv] at hV
  obtain ⟨rfl, rfl⟩ := trodVars_none hV
  have hlt : ∀ x ∈ p ++ [], x.block < W.heap.size := fun x hx => hW0.lt x hx
  have hold : ∀ x ∈ p ++ [], (fun b => decide (b < W.heap.size)) x.block = true := fun x hx => by simpa using hlt x hx
  have hA' : ∀ sp : Nat → Bool, (∀ x ∈ p ++ [], sp x.block = true) → DataW.TrodAll enc P W' 0 sp true f.params.toList args.toList ds p := fun sp hsp =>
    trodAll_stays hl ht hA (fun x hx => hf.same (hlt x (List.mem_append_left _ hx))) (fun x hx => hsp x (List.mem_append_left _ hx))
  have hres' : ∀ (b : Nat) (sp : Nat → Bool) (hd : Bool), DataW.TrodAll enc P W' b sp hd f.resultTypes.toList ((Value.bool true).resultList f.resultTypes.size) (s.fn H (ds ++ [])).results [] := fun b sp hd => by
    rw [hres, hr]
    exact trodAll_mk1 (shut_bool hb true)
  have hV' : ∀ sp : Nat → Bool, DataW.TrodVars enc P W' sp s.vars (s.fn H (ds ++ [])).vars [] := fun sp => by
    rw [hvars, hv]
    rfl
  have hA3 : ∀ sp : Nat → Bool, (∀ x ∈ p ++ [], sp x.block = true) → DataW.TrodAll enc P W' 0 sp true f.params.toList args.toList (s.fn H (ds ++ [])).args p := by rw [hargs]; exact hA'
  refine ⟨ds, [], p ++ [], [], p, [], hW0, hres' _ _ _, hA3 _ hold, hV' _, World.keptBut_mono (fun x hx => ⟨hx, Or.inr (List.mem_append.1 hx)⟩) (hf.frame (· ∈ p ++ [])), fun _ => ?_⟩
  refine ⟨?_, _, _, ([] ++ p) ++ [], ⟨[] ++ p, [], trodAll_append (hA3 _ (fun _ _ => rfl)) (hres' _ _ _), hV' _, rfl, ?_, fun h => by cases h⟩, ?_⟩
  · intro j t r hj hv'
    rw [hr] at hj hv'
    match j, hj, hv' with
    | 0, hj, hv' =>
      simp [Value.resultList] at hj hv'
      subst hj; subst hv'
      exact okWide_bool_mk hb true
  · intro b off hp
    have hin : MemPlace.cell b off ∈ p ++ [] := by simpa using hp
    rw [Below.frozen hf (hlt _ hin)]
    exact hfz b off hin
  · intro x hx _
    simpa using hx
end

/-- The reach, argument by argument. -/
theorem weights_arg {H : Type} {P : Program} {ts : List TypeId} {ds : List (DataW H)} (h : (DataW.weightsEach P ts ds).all (· ≤ reachBytes) = true) (j : Nat) {t : TypeId} {d : DataW H} (ht : ts[j]? = some t) (hd : ds[j]? = some d) : ∀ n ∈ d.weights P t, n ≤ reachBytes :=
  fun n hn => by simpa using List.all_eq_true.1 h n (DataW.weights_mem_each ht hd n hn)

/-! ### Data -/
/-- A list in a slice's memory: each element takes 'sz' cells, of which R tells what they hold; the capacity is at most M. -/
def SlRep {α : Type} (sz M : Nat) (R : World → List Value → α → Prop) (w : World) (v : Value) (xs : List α) : Prop :=
  ∃ (A : Option Addr) (cap : Nat), v = .slice A xs.length cap ∧ xs.length ≤ cap ∧ cap ≤ M ∧
    ∀ i x, xs[i]? = some x → ∃ b off cs, A = some ⟨b, off, none⟩ ∧ cs.length = sz ∧ (∀ j c, cs[j]? = some c → w.cell? ⟨b, off + (i * sz + j), none⟩ = some c) ∧ R w cs x
/-- What later memory does not turn. -/
def Stays {α : Type} (R : World → List Value → α → Prop) : Prop := ∀ w w' cs x, Fut w w' → R w cs x → R w' cs x
theorem SlRep.fut {α : Type} {sz M : Nat} {R : World → List Value → α → Prop} (hR : Stays R) {w w' : World} {v : Value} {xs : List α} (h : SlRep sz M R w v xs) (hf : Fut w w') : SlRep sz M R w' v xs := by
  obtain ⟨A, cap, hv, h1, h2, h3⟩ := h
  refine ⟨A, cap, hv, h1, h2, fun i x hx => ?_⟩
  obtain ⟨b, off, cs, hA, hl, hc, hr⟩ := h3 i x hx
  exact ⟨b, off, cs, hA, hl, fun j c hj => hf.cell (hc j c hj), hR _ _ _ _ hf hr⟩
theorem SlRep.more {α : Type} {sz M M' : Nat} {R : World → List Value → α → Prop} {w : World} {v : Value} {xs : List α} (h : SlRep sz M R w v xs) (hM : M ≤ M') : SlRep sz M' R w v xs := by
  obtain ⟨A, cap, hv, h1, h2, h3⟩ := h
  exact ⟨A, cap, hv, h1, by omega, h3⟩
theorem SlRep.imp {α : Type} {sz M : Nat} {R R' : World → List Value → α → Prop} {w : World} {v : Value} {xs : List α} (h : SlRep sz M R w v xs) (hR : ∀ cs x, R w cs x → R' w cs x) : SlRep sz M R' w v xs := by
  obtain ⟨A, cap, hv, h1, h2, h3⟩ := h
  refine ⟨A, cap, hv, h1, h2, fun i x hx => ?_⟩
  obtain ⟨b, off, cs, hA, hl, hc, hr⟩ := h3 i x hx
  exact ⟨b, off, cs, hA, hl, hc, hR _ _ hr⟩
theorem SlRep.form {α : Type} {sz M : Nat} {R : World → List Value → α → Prop} {w : World} {v : Value} {xs : List α} (h : SlRep sz M R w v xs) : ∃ A cap, v = .slice A xs.length cap ∧ xs.length ≤ cap ∧ cap ≤ M := by
  obtain ⟨A, cap, hv, h1, h2, _⟩ := h
  exact ⟨A, cap, hv, h1, h2⟩
theorem SlRep.len {α : Type} {sz M : Nat} {R : World → List Value → α → Prop} {w : World} {v : Value} {xs : List α} (h : SlRep sz M R w v xs) : xs.length ≤ M := by
  obtain ⟨A, cap, hv, h1, h2, _⟩ := h
  omega
/-- .. of cells: a slice is one cell. -/
def SlR {α : Type} (sz M : Nat) (R : World → List Value → α → Prop) (w : World) (cs : List Value) (xs : List α) : Prop := ∃ v, cs = [v] ∧ SlRep sz M R w v xs
theorem SlR.stays {α : Type} {sz M : Nat} {R : World → List Value → α → Prop} (hR : Stays R) : Stays (SlR sz M R) := fun _ _ _ _ hf ⟨v, h1, h2⟩ => ⟨v, h1, h2.fut hR hf⟩
theorem SlRep.nil {α : Type} {sz M : Nat} {R : World → List Value → α → Prop} {w : World} : SlRep sz M R w (.slice none 0 0) ([] : List α) :=
  ⟨none, 0, rfl, Nat.le_refl _, Nat.zero_le _, fun i x hx => by simp at hx⟩

/-- What a type's cells read as, within the form's own reach. -/
def Reads {α : Type} (P : Program) (t : TypeId) (R : World → List Value → α → Prop) : Prop :=
  ∀ (H : Type) (enc : TypeId × Value → H) (w : World) (base : Nat) (held : Bool) (fuel : Nat) (cs : List Value) (x : DataW H × List MemPlace), DataW.trod enc P w base (fun _ => true) held fuel t cs = some x →
    (∀ n ∈ x.1.weights P t, n ≤ reachBytes) → ∃ d, R w cs d
theorem Reads.imp {α : Type} {P : Program} {t : TypeId} {R R' : World → List Value → α → Prop} (h : Reads P t R) (hR : ∀ w cs d, R w cs d → R' w cs d) : Reads P t R' := fun H enc w base held fuel cs x hx hn => by
  obtain ⟨d, hd⟩ := h H enc w base held fuel cs x hx hn
  exact ⟨d, hR _ _ _ hd⟩

theorem exists_list {α : Type} {p : Nat → α → Prop} : ∀ n, (∀ i, i < n → ∃ x, p i x) → ∃ xs : List α, xs.length = n ∧ ∀ i x, xs[i]? = some x → p i x
  | 0, _ => ⟨[], rfl, fun i x hx => by simp at hx⟩
  | n + 1, h => by
    obtain ⟨xs, hl, hx⟩ := exists_list n fun i hi => h i (by omega)
    obtain ⟨y, hy⟩ := h n (by omega)
    refine ⟨xs ++ [y], by simp [hl], fun i x hi => ?_⟩
    rcases Nat.lt_or_ge i n with h' | h'
    · exact hx i x (by rwa [List.getElem?_append_left (by omega)] at hi)
    · rw [List.getElem?_append_right (by omega), hl] at hi
      have : i = n := by
        have := (List.getElem?_eq_some_iff.1 hi).1
        simp at this; omega
      subst this
      simp at hi
      rw [← hi]; exact hy

theorem weightsAll_mem {H : Type} {P : Program} {e : TypeId} : ∀ {ds : List (DataW H)} {d : DataW H}, d ∈ ds → ∀ n ∈ d.weights P e, n ∈ DataW.weightsAll P e ds
  | d0 :: r, d, hd, n, hn => by
    simp only [DataW.weightsAll, List.mem_append]
    rcases List.mem_cons.1 hd with rfl | h
    · exact .inl hn
    · exact .inr (weightsAll_mem h n hn)

theorem reads_slice {α : Type} {P : Program} {t e : TypeId} {sz M : Nat} {R : World → List Value → α → Prop} (ht : P.underlying t = some (.slice e)) (hc : P.cellsOf e = sz) (h0 : 0 < sz) (hM : ∀ c, c * P.bytesOf e ≤ reachBytes → c ≤ M) (hR : Reads P e R) : Reads P t (SlR sz M R) := by
  intro H enc w base held fuel cs x h hn
  rcases open_slice ht h with ⟨h1, _⟩ | ⟨a, len, cap, m, n, D, Pl, hcs, hb, hl, hm, hmm, hx, hi⟩
  · exact ⟨[], _, h1, SlRep.nil⟩
  · have hlm : len ≤ m := by rw [hmm]; simp; exact hl
    have hmc : m = cap := by rw [hmm]; simp
    have hw : x.1.weights P t = (len + (cap - len)) * P.bytesOf e :: (DataW.weightsAll P e ((List.range len).map D) ++ DataW.weightsAll P e ((List.range (m - len)).map fun j => D (len + j))) := by
      rw [hx]
      simp [DataW.weights, ht, hmc]
    have hcap : cap ≤ M := hM cap (by
      have := hn ((len + (cap - len)) * P.bytesOf e) (by rw [hw]; simp)
      rwa [show len + (cap - len) = cap by omega] at this)
    obtain ⟨xs, hxl, hxs⟩ := exists_list (p := fun i x => ∃ b off cs', some a = some ⟨b, off, none⟩ ∧ cs'.length = sz ∧ (∀ j c, cs'[j]? = some c → w.cell? ⟨b, off + (i * sz + j), none⟩ = some c) ∧ R w cs' x) len fun i hil => by
      obtain ⟨cs', h1, h2⟩ := hi i (by omega)
      obtain ⟨y, hy⟩ := hR H enc w base held n cs' _ h2 fun k hk => hn k (by
        rw [hw]
        refine List.mem_cons_of_mem _ (List.mem_append_left _ (weightsAll_mem (d := D i) ?_ k hk))
        exact List.mem_map.2 ⟨i, List.mem_range.2 hil, rfl⟩)
      rw [hc] at h1
      obtain ⟨_, hlen, hcell⟩ := World.cells?_some h1
      obtain ⟨ab, ao, asp⟩ := a
      have hsp : asp = none ∨ ∀ j, j < sz → False := by
        cases asp with
        | none => exact .inl rfl
        | some q =>
          right
          intro j hj
          have h0' := (hi 0 (by omega))
          obtain ⟨cs0, hz0, _⟩ := h0'
          rw [hc] at hz0
          obtain ⟨_, hlen0, hcell0⟩ := World.cells?_some hz0
          have := hcell0 0 h0
          rw [List.getElem?_eq_getElem (by omega)] at this
          unfold World.cell? Addr.add at this
          simp at this
          split at this <;> simp at this
      rcases hsp with rfl | hsp
      · refine ⟨y, ab, ao, cs', rfl, hlen, fun j c hj => ?_, hy⟩
        have hjl : j < sz := by rw [← hlen]; exact (List.getElem?_eq_some_iff.1 hj).1
        have := hcell j hjl
        rw [hj] at this
        rw [← this]
        congr 1
        unfold Addr.add
        by_cases h1' : i * sz = 0 <;> by_cases h2' : j = 0 <;> simp [h1', h2', Nat.add_assoc]
      · exact (hsp 0 h0).elim
    exact ⟨xs, _, hcs, some a, cap, by rw [hxl], by omega, hcap, hxs⟩

theorem reads_string {P : Program} {t : TypeId} (ht : P.underlying t = some .string) : Reads P t (fun _ cs (s : ByteArray) => cs = [.string s] ∧ s.size ≤ 140737488351232) := by
  intro H enc w base held fuel cs x h hn
  obtain ⟨s, h1, hx, h2⟩ := DataW.trod_string ht h
  refine ⟨s, h1, ?_⟩
  have := hn s.data.toList.length (by rw [hx]; simp [DataW.weights])
  simpa [reachBytes] using this
theorem reads_int {P : Program} {t : TypeId} {k : IntKind} (ht : P.underlying t = some (.int k)) : Reads P t (fun _ cs (n : Int) => cs = [.int k n] ∧ (Lit.int k n).wf = true) := by
  intro H enc w base held fuel cs x h _
  obtain ⟨s, h1, _, h2⟩ := DataW.trod_int ht h
  exact ⟨s, h1, h2⟩

theorem reads_field {α : Type} {P : Program} {f : Field} {R : World → List Value → α → Prop} {H : Type} {enc : TypeId × Value → H} {w : World} {base : Nat} {held : Bool} {t : TypeId} {fs : Array Field} {fuel : Nat} {cs : List Value} {x : DataW H × List MemPlace}
    (hs : P.underlying t = some (.struct fs)) (h : DataW.trod enc P w base (fun _ => true) held fuel t cs = some x) (hn : ∀ n ∈ x.1.weights P t, n ≤ reachBytes) (i : Nat) (hi : fs[i]? = some f) (hR : Reads P f.type R) :
    ∃ d, R w ((cs.drop f.offset).take (P.cellsOf f.type)) d := by
  obtain ⟨xs, n, _, hx, _, hl, hf⟩ := DataW.trod_struct hs h
  have h1 := hf i f hi
  have hil : i < fs.size := (Array.getElem?_eq_some_iff.1 hi).1
  have hxi : xs[i]? = some (xs[i]'(by omega)) := List.getElem?_eq_getElem (by omega)
  rw [hxi] at h1
  refine hR H enc w base held n _ _ h1 fun k hk => hn k ?_
  rw [hx]
  simp only [DataW.weights, hs]
  refine DataW.weights_mem_each (j := i) (t := f.type) (d := (xs[i]'(by omega)).1) ?_ (by simp [hxi]) k hk
  have : fs.toList[i]? = some f := by simpa using hi
  simp [this]
theorem reads_len {P : Program} {H : Type} {enc : TypeId × Value → H} {w : World} {base : Nat} {held : Bool} {t : TypeId} {fs : Array Field} {fuel : Nat} {cs : List Value} {x : DataW H × List MemPlace}
    (hs : P.underlying t = some (.struct fs)) (h : DataW.trod enc P w base (fun _ => true) held fuel t cs = some x) : cs.length = P.cellsOf t := by
  obtain ⟨_, _, _, _, hl, _, _⟩ := DataW.trod_struct hs h
  exact hl

/-- api.Value. -/
structure V where
  k : Int
  n : Int
  s : ByteArray
def V.ok (x : V) : Prop := (Lit.int .i8 x.k).wf = true ∧ (Lit.int .i64 x.n).wf = true ∧ x.s.size ≤ 140737488351232
def V.cells (x : V) : List Value := [.int .i8 x.k, .int .i64 x.n, .string x.s]
def V.val (x : V) : Value := .agg #[.int .i8 x.k, .int .i64 x.n, .string x.s]
def RV (_ : World) (cs : List Value) (x : V) : Prop := cs = x.cells ∧ x.ok
theorem RV.stays : Stays RV := fun _ _ _ _ _ h => h
/-- What an argument holds; what a contract asks. -/
abbrev ValsA : World → Value → List V → Prop := SlRep 3 4398046511104 RV
abbrev Vals : World → Value → List V → Prop := SlRep 3 9223372036854775807 RV
theorem ValsA.vals {w : World} {v : Value} {xs : List V} (h : ValsA w v xs) : Vals w v xs := h.more (by omega)
theorem reads_V {P : Program} {t : TypeId} {f0 f1 f2 : Field} (hs : P.underlying t = some (.struct #[f0, f1, f2])) (hC : P.cellsOf t = 3) (h0 : P.underlying f0.type = some (.int .i8)) (h1 : P.underlying f1.type = some (.int .i64)) (h2 : P.underlying f2.type = some .string)
    (o0 : f0.offset = 0) (o1 : f1.offset = 1) (o2 : f2.offset = 2) (c0 : P.cellsOf f0.type = 1) (c1 : P.cellsOf f1.type = 1) (c2 : P.cellsOf f2.type = 1) : Reads P t RV := by
  intro H enc w base held fuel cs x h hn
  have hl := (reads_len hs h).trans hC
  obtain ⟨k, e0, w0⟩ := reads_field hs h hn 0 rfl (reads_int h0)
  obtain ⟨n, e1, w1⟩ := reads_field hs h hn 1 rfl (reads_int h1)
  obtain ⟨s, e2, w2⟩ := reads_field hs h hn 2 rfl (reads_string h2)
  match cs, hl with
  | [a, b, c], _ =>
    simp [o0, o1, o2, c0, c1, c2] at e0 e1 e2
    exact ⟨⟨k, n, s⟩, by rw [e0, e1, e2]; rfl, w0, w1, w2⟩

/-- api.Fact: its name, its tuple, and the slice's value. -/
structure Fc where
  p : ByteArray
  a : List V
def RF (w : World) (cs : List Value) (x : Fc) : Prop := ∃ v, cs = [.string x.p, v] ∧ x.p.size ≤ 140737488351232 ∧ ValsA w v x.a
theorem RF.stays : Stays RF := fun _ _ _ _ hf ⟨v, h1, h2, h3⟩ => ⟨v, h1, h2, h3.fut RV.stays hf⟩
abbrev Facs : World → Value → List Fc → Prop := SlRep 2 3518437208883 RF
theorem reads_F {P : Program} {t : TypeId} {f0 f1 : Field} (hs : P.underlying t = some (.struct #[f0, f1])) (hC : P.cellsOf t = 2) (h0 : P.underlying f0.type = some .string) (h1 : Reads P f1.type (SlR 3 4398046511104 RV))
    (o0 : f0.offset = 0) (o1 : f1.offset = 1) (c0 : P.cellsOf f0.type = 1) (c1 : P.cellsOf f1.type = 1) : Reads P t RF := by
  intro H enc w base held fuel cs x h hn
  have hl := (reads_len hs h).trans hC
  obtain ⟨s, e0, w0⟩ := reads_field hs h hn 0 rfl (reads_string h0)
  obtain ⟨xs, v, e1, w1⟩ := reads_field hs h hn 1 rfl h1
  match cs, hl with
  | [a, b], _ =>
    simp [o0, o1, c0, c1] at e0 e1
    exact ⟨⟨s, xs⟩, v, by rw [e0, e1], w0, w1⟩

/-- An argument. -/
theorem reads_arg {α : Type} {P : Program} {t : TypeId} {R : World → List Value → α → Prop} (hR : Reads P t R) {H : Type} {enc : TypeId × Value → H} {w : World} {v : Value} {d : DataW H} {ps : List MemPlace} (h : DataW.Trod enc P w 0 (fun _ => true) true t v d ps) (hs : ∀ n ∈ d.weights P t, n ≤ reachBytes) :
    ∃ x, R w v.cells.toList x := by
  obtain ⟨n, hn⟩ := h
  exact hR H enc w 0 true n _ _ hn hs
theorem arg_struct {P : Program} {w : World} {r : Reach} {b : Nat} {t : TypeId} {fs : Array Field} {v : Value} (hs : P.underlying t = some (.struct fs)) (hv : Value.okWide P w r b t v) : ∃ cs, v = .agg cs := by
  obtain ⟨cs, h, _⟩ := okWide_struct hs hv
  exact ⟨cs, h⟩
theorem arg_V {w : World} {v : Value} {x : V} (h : RV w v.cells.toList x) (hv : ∃ cs, v = .agg cs) : v = x.val := by
  obtain ⟨⟨cs⟩, rfl⟩ := hv
  have h1 : cs = x.cells := by simpa [Value.cells] using h.1
  subst h1; rfl
theorem arg_F {w : World} {v : Value} {x : Fc} (h : RF w v.cells.toList x) (hv : ∃ cs, v = .agg cs) : ∃ u, v = .agg #[.string x.p, u] ∧ x.p.size ≤ 140737488351232 ∧ ValsA w u x.a := by
  obtain ⟨⟨cs⟩, rfl⟩ := hv
  obtain ⟨u, h1, h2, h3⟩ := h
  have h1 : cs = [.string x.p, u] := by simpa [Value.cells] using h1
  subst h1; exact ⟨u, rfl, h2, h3⟩
theorem arg_slice {α : Type} {P : Program} {sz M : Nat} {R : World → List Value → α → Prop} {w : World} {r : Reach} {b : Nat} {t e : TypeId} {v : Value} {xs : List α} (h : SlR sz M R w v.cells.toList xs) (ht : P.underlying t = some (.slice e)) (hv : Value.okWide P w r b t v) : SlRep sz M R w v xs := by
  obtain ⟨a, len, cap, rfl⟩ := okWide_slice ht hv
  obtain ⟨u, h1, h2⟩ := h
  simp [Value.cells] at h1
  rw [h1]; exact h2

/-- A slice literal of ints. -/
def RI (_ : World) (cs : List Value) (n : Int) : Prop := cs = [.int .i64 n]
theorem RI.stays : Stays RI := fun _ _ _ _ _ h => h
theorem ints_new (w : World) (e : TypeId) (xs : List Int) (hl : xs.length ≤ 17592186044416) : SlRep 1 17592186044416 RI (w.alloc (.cells (xs.map (Value.int .i64)).toArray e)) (.slice (some ⟨w.heap.size, 0, none⟩) xs.length xs.length) xs := by
  refine ⟨_, _, rfl, Nat.le_refl _, hl, fun i x hx => ⟨_, _, [.int .i64 x], rfl, rfl, fun j c hj => ?_, rfl⟩⟩
  have hj0 : j = 0 := by
    have := (List.getElem?_eq_some_iff.1 hj).1
    simp at this; omega
  subst hj0
  simp at hj
  subst hj
  rw [show 0 + (i * 1 + 0) = i by omega]
  refine (World.cell?_alloc_mark w _ e (0, 0) i).trans ?_
  simp [hx]

/-! ### A block of the call's own, cell by cell -/
def BlkF (w : World) (g : Nat) (t : TypeId) (N : Nat) (f : Nat → Value) : Prop :=
  ∃ arr : Array Value, w.heap[g]? = some (.cells arr t (0, 0)) ∧ arr.size = N ∧ ∀ j, j < N → arr[j]? = some (f j)
section
variable {w w' : World} {g N : Nat} {t : TypeId} {f : Nat → Value}
theorem BlkF.lt (h : BlkF w g t N f) : g < w.heap.size := by
  obtain ⟨arr, h1, _⟩ := h
  rcases Nat.lt_or_ge g w.heap.size with h' | h'
  · exact h'
  · rw [Array.getElem?_eq_none h'] at h1; cases h1
theorem BlkF.cell (h : BlkF w g t N f) {j : Nat} (hj : j < N) : w.cell? ⟨g, j, none⟩ = some (f j) := by
  obtain ⟨arr, h1, h2, h3⟩ := h
  simp [World.cell?, h1, h3 j hj]
theorem BlkF.free (h : BlkF w g t N f) (j : Nat) : w.frozen? ⟨g, j, none⟩ = false := by
  obtain ⟨arr, h1, _⟩ := h
  simp [World.frozen?, h1]
theorem BlkF.fut (h : BlkF w g t N f) (hf : Fut w w') : BlkF w' g t N f := by
  obtain ⟨arr, h1, h2⟩ := h
  exact ⟨arr, hf.block h1, h2⟩
theorem BlkF.congr {f' : Nat → Value} (h : BlkF w g t N f) (he : ∀ j, j < N → f j = f' j) : BlkF w g t N f' := by
  obtain ⟨arr, h1, h2, h3⟩ := h
  exact ⟨arr, h1, h2, fun j hj => by rw [h3 j hj, he j hj]⟩
theorem BlkF.set (h : BlkF w g t N f) (i : Nat) (v : Value) : BlkF (w.setCell ⟨g, i, none⟩ v) g t N (fun j => if j = i then v else f j) := by
  obtain ⟨arr, h1, h2, h3⟩ := h
  refine ⟨arr.setIfInBounds i v, ?_, by simp [h2], fun j hj => ?_⟩
  · simp [World.setCell, Array.getElem?_modify, h1]
  · by_cases hij : j = i
    · subst hij; simp [h2, hj]
    · rw [Array.getElem?_setIfInBounds_ne (Ne.symm hij), h3 j hj]; simp [hij]
theorem BlkF.far (h : BlkF w g t N f) {p : Addr} (hp : g ≠ p.block) (v : Value) : BlkF (w.setCell p v) g t N f := by
  obtain ⟨arr, h1, h2⟩ := h
  exact ⟨arr, (Below.heap_setCell w p v g hp).trans h1, h2⟩
theorem BlkF.alloc (h : BlkF w g t N f) (o : Obj) : BlkF (w.alloc o) g t N f := h.fut (Fut.alloc w o)
theorem BlkF.drew (h : BlkF w g t N f) : BlkF w.drew g t N f := h
theorem BlkF.new (w : World) (t : TypeId) (arr : Array Value) : BlkF (w.alloc (.cells arr t)) w.heap.size t arr.size (fun j => arr.getD j undef) :=
  ⟨arr, heap_alloc_new w _, rfl, fun j hj => by simp [hj]⟩
end

/-- The cells of a list of values, one behind the other. -/
def flat (xs : List V) (j : Nat) : Value := ((xs[j / 3]?).map fun x => x.cells.getD (j % 3) undef).getD undef
theorem flat_at (xs : List V) (k : Nat) (hk : k < xs.length) : flat xs (k * 3) = .int .i8 (xs[k]).k ∧ flat xs (k * 3 + 1) = .int .i64 (xs[k]).n ∧ flat xs (k * 3 + 2) = .string (xs[k]).s := by
  unfold flat
  rw [show k * 3 / 3 = k by omega, show (k * 3 + 1) / 3 = k by omega, show (k * 3 + 2) / 3 = k by omega, show k * 3 % 3 = 0 by omega, show (k * 3 + 1) % 3 = 1 by omega, show (k * 3 + 2) % 3 = 2 by omega, List.getElem?_eq_getElem hk]
  exact ⟨rfl, rfl, rfl⟩
/-- A list with a block of its own. -/
theorem vals_of_blk {w : World} {g t N cap : Nat} {xs : List V} {f : Nat → Value} (h : BlkF w g t N f) (hN : xs.length * 3 ≤ N) (hf : ∀ j, j < xs.length * 3 → f j = flat xs j) (hc : xs.length ≤ cap) (hm : cap ≤ 9223372036854775807) (hok : ∀ x ∈ xs, x.ok) :
    Vals w (.slice (some ⟨g, 0, none⟩) xs.length cap) xs := by
  refine ⟨_, _, rfl, hc, hm, fun i x hx => ⟨g, 0, x.cells, rfl, rfl, fun j c hj => ?_, rfl, hok x (List.mem_of_getElem? hx)⟩⟩
  have hil : i < xs.length := (List.getElem?_eq_some_iff.1 hx).1
  have hjl : j < 3 := (List.getElem?_eq_some_iff.1 hj).1
  rw [Nat.zero_add, h.cell (by omega), hf _ (by omega)]
  unfold flat
  rw [show (i * 3 + j) / 3 = i by omega, show (i * 3 + j) % 3 = j by omega, hx]
  simp [List.getD, hj]

theorem run_make_rowN {P : Program} (t e : TypeId) (i : TypeInfo) (z : Value) (ht : P.underlying t = some (.slice e)) (hi : P.info? e = some i) (hz : i.zero = some z)
    (kl kc : IntKind) (n c : Nat) (hnc : n ≤ c) (hbytes : i.bytes * c ≤ 281474976710656) (h63 : c ≤ 9223372036854775807) (w : World) :
    (Instr.makeSlice t (.int kl (n : Int)) (.int kc (c : Int))).run P w = .ok (.slice (some ⟨w.heap.size, 0, none⟩) n c) (w.alloc (.cells (madeCells z.cells (c * i.size)) e)) := by
  have hb : (i.bytes : Int) * (c : Int) ≤ 281474976710656 := by
    have h : ((i.bytes * c : Nat) : Int) ≤ 281474976710656 := by omega
    rwa [Int.natCast_mul] at h
  have hr := run_make (P := P) w t e i z ht hi hz kl kc n c (by omega) (by omega) hb (by omega)
  simp only [Int.toNat_natCast] at hr
  exact hr

end Go.Proofs.Ytcekphjcmippoaa
