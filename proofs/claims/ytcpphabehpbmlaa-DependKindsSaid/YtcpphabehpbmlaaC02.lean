/- Rep, Tree, OrdL, Shelf, Cmp, Vals, TreeR -/
import Derived.ProofKit
import Derived.WideKeyArgs
import Derived.Deep.Slices
import Derived.Carry
import Derived.Laws.IdiomStrings
import Derived.Laws.MakeOwn
import Derived.Laws.Entries
import Derived.SizedLaws
import Derived.Shelf.Lay
import Derived.Shelf.LaySoft
import Derived.Test.YtcpphabehpbmlaaProg
import Derived.Test.YtcpphabehpbmlaaRows
import Derived.WalkKit
import Derived.WalkSpells
import Derived.WalkLawsBesides
import Derived.Lib.Hide
import Derived.Deep.RegionWith
import Derived.Lib.Bytealg
import Derived.Deep.QuietTactic
import Derived.BigQuiet
import Derived.Test.YtcpphabehpbmlaaC01
/-
  What the arguments' memory holds, as plain data: lists, structs; how it is read off the form's own reading; and the last step of every law that answers true and leaves what was there as it was.
-/
namespace Go.Proofs.Ytcpphabehpbmlaa
open Go.RowKit Go.ChangeShapes Go.WideShapes Go.ChangeAt Go.Deep

/-! ### The row's last step -/
section
variable {H : Type} {enc : TypeId × Value → H} {P : Program}

theorem trodAll_stays (hl : laidOutB P = true) {W W' : World} {sp' : Nat → Bool} : ∀ {ts : List TypeId} {vs : List Value} {ds : List (DataW H)} {ps : List MemPlace},
    (ts.all fun t => P.readableRec t && decide (t < P.types.size)) = true → DataW.TrodAll enc P W 0 (fun _ => true) true ts vs ds ps → (∀ p ∈ ps, W.sameAt W' p) → (∀ p ∈ ps, sp' p.block = true) →
    DataW.TrodAll enc P W' 0 sp' true ts vs ds ps
  | [], [], [], ps, _, h, _, _ => h
  | [], _ :: _, _, _, _, h, _, _ => by simp [DataW.TrodAll] at h
  | [], [], _ :: _, _, _, h, _, _ => by simp [DataW.TrodAll] at h
  | t :: ts, [], _, _, _, h, _, _ => by simp [DataW.TrodAll] at h
  | t :: ts, v :: vs, [], _, _, h, _, _ => by simp [DataW.TrodAll] at h
  | t :: ts, v :: vs, d :: ds, ps, ht, h, hs, hsp => by
    obtain ⟨p, q, h1, h2, rfl⟩ := h
    simp only [List.all_cons, Bool.and_eq_true, decide_eq_true_eq] at ht
    exact ⟨p, q, WideElems.Trod_stays hl ht.1.1 ht.1.2 h1 (fun x hx => hs x (List.mem_append_left _ hx)) (fun x hx => hsp x (List.mem_append_left _ hx)),
      trodAll_stays hl (by simpa using ht.2) h2 (fun x hx => hs x (List.mem_append_right _ hx)) (fun x hx => hsp x (List.mem_append_right _ hx)), rfl⟩

/-- A law's post: it answers true, and memory has grown. -/
theorem law_post {f : Func} {s : ChangeSpec} {tb : TypeId} {W W' : World} {args : Array Value} {ds gs : List (DataW H)} {before : List MemPlace} (hl : laidOutB P = true)
    (hW : DataW.Whole enc P f.params.toList s.vars false W args.toList ds gs before) (hv : s.vars = [])
    (ht : (f.params.toList.all fun t => P.readableRec t && decide (t < P.types.size)) = true)
    (hr : f.resultTypes = #[tb]) (hb : P.underlying tb = some .bool)
    (hres : (s.fn H (ds ++ gs)).results = [.lit (.bool true)]) (hargs : (s.fn H (ds ++ gs)).args = ds) (hvars : (s.fn H (ds ++ gs)).vars = [])
    (hf : Fut W W') : s.post enc P f false true false false W args (.bool true) W' := by
  have hW0 := hW
  obtain ⟨p, q, hA, hV, rfl, hfz, _⟩ := hW
  rw [hv] at hV
  obtain ⟨rfl, rfl⟩ := trodVars_none hV
  have hlt : ∀ x ∈ p ++ [], x.block < W.heap.size := fun x hx => hW0.lt x hx
  have hold : ∀ x ∈ p ++ [], (fun b => decide (b < W.heap.size)) x.block = true := fun x hx => by simpa using hlt x hx
  have hA' : ∀ sp : Nat → Bool, (∀ x ∈ p ++ [], sp x.block = true) → DataW.TrodAll enc P W' 0 sp true f.params.toList args.toList ds p := fun sp hsp =>
    trodAll_stays hl ht hA (fun x hx => hf.same (hlt x (List.mem_append_left _ hx))) (fun x hx => hsp x (List.mem_append_left _ hx))
  have hres' : ∀ (b : Nat) (sp : Nat → Bool) (hd : Bool), DataW.TrodAll enc P W' b sp hd f.resultTypes.toList ((Value.bool true).resultList f.resultTypes.size) (s.fn H (ds ++ [])).results [] := fun b sp hd => by
    rw [hres, hr]
    exact trodAll_mk1 (shut_bool hb true)
  have hV' : ∀ sp : Nat → Bool, DataW.TrodVars enc P W' sp s.vars (s.fn H (ds ++ [])).vars [] := fun sp => by
    rw [hvars, hv]
    rfl
  have hA3 : ∀ sp : Nat → Bool, (∀ x ∈ p ++ [], sp x.block = true) → DataW.TrodAll enc P W' 0 sp true f.params.toList args.toList (s.fn H (ds ++ [])).args p := by rw [hargs]; exact hA'
  refine ⟨ds, [], p ++ [], [], p, [], hW0, hres' _ _ _, hA3 _ hold, hV' _, World.keptBut_mono (fun x hx => ⟨hx, Or.inr (List.mem_append.1 hx)⟩) (hf.frame (· ∈ p ++ [])), fun _ => ?_⟩
  refine ⟨?_, _, _, ([] ++ p) ++ [], ⟨[] ++ p, [], trodAll_append (hA3 _ (fun _ _ => rfl)) (hres' _ _ _), hV' _, rfl, ?_, fun h => by cases h⟩, ?_⟩
  · intro j t r hj hv'
    rw [hr] at hj hv'
    match j, hj, hv' with
    | 0, hj, hv' =>
      simp [Value.resultList] at hj hv'
      subst hj; subst hv'
      exact okWide_bool_mk hb true
  · intro b off hp
    have hin : MemPlace.cell b off ∈ p ++ [] := by simpa using hp
    rw [Below.frozen hf (hlt _ hin)]
    exact hfz b off hin
  · intro x hx _
    simpa using hx
end

/-- The reach, argument by argument. -/
theorem weights_arg {H : Type} {P : Program} {ts : List TypeId} {ds : List (DataW H)} (h : (DataW.weightsEach P ts ds).all (· ≤ reachBytes) = true) (j : Nat) {t : TypeId} {d : DataW H} (ht : ts[j]? = some t) (hd : ds[j]? = some d) : ∀ n ∈ d.weights P t, n ≤ reachBytes :=
  fun n hn => by simpa using List.all_eq_true.1 h n (DataW.weights_mem_each ht hd n hn)

/-! ### Data -/
/-- A list in a slice's memory: each element takes 'sz' cells, of which R tells what they hold; the capacity is at most M. -/
def SlRep {α : Type} (sz M : Nat) (R : World → List Value → α → Prop) (w : World) (v : Value) (xs : List α) : Prop :=
  ∃ (A : Option Addr) (cap : Nat), v = .slice A xs.length cap ∧ xs.length ≤ cap ∧ cap ≤ M ∧
    ∀ i x, xs[i]? = some x → ∃ b off cs, A = some ⟨b, off, none⟩ ∧ cs.length = sz ∧ (∀ j c, cs[j]? = some c → w.cell? ⟨b, off + (i * sz + j), none⟩ = some c) ∧ R w cs x
/-- What later memory does not turn. -/
def Stays {α : Type} (R : World → List Value → α → Prop) : Prop := ∀ w w' cs x, Fut w w' → R w cs x → R w' cs x
theorem SlRep.fut {α : Type} {sz M : Nat} {R : World → List Value → α → Prop} (hR : Stays R) {w w' : World} {v : Value} {xs : List α} (h : SlRep sz M R w v xs) (hf : Fut w w') : SlRep sz M R w' v xs := by
  obtain ⟨A, cap, hv, h1, h2, h3⟩ := h
  refine ⟨A, cap, hv, h1, h2, fun i x hx => ?_⟩
  obtain ⟨b, off, cs, hA, hl, hc, hr⟩ := h3 i x hx
  exact ⟨b, off, cs, hA, hl, fun j c hj => hf.cell (hc j c hj), hR _ _ _ _ hf hr⟩
theorem SlRep.more {α : Type} {sz M M' : Nat} {R : World → List Value → α → Prop} {w : World} {v : Value} {xs : List α} (h : SlRep sz M R w v xs) (hM : M ≤ M') : SlRep sz M' R w v xs := by
  obtain ⟨A, cap, hv, h1, h2, h3⟩ := h
  exact ⟨A, cap, hv, h1, by omega, h3⟩
theorem SlRep.imp {α : Type} {sz M : Nat} {R R' : World → List Value → α → Prop} {w : World} {v : Value} {xs : List α} (h : SlRep sz M R w v xs) (hR : ∀ cs x, R w cs x → R' w cs x) : SlRep sz M R' w v xs := by
  obtain ⟨A, cap, hv, h1, h2, h3⟩ := h
  refine ⟨A, cap, hv, h1, h2, fun i x hx => ?_⟩
  obtain ⟨b, off, cs, hA, hl, hc, hr⟩ := h3 i x hx
  exact ⟨b, off, cs, hA, hl, hc, hR _ _ hr⟩
theorem SlRep.form {α : Type} {sz M : Nat} {R : World → List Value → α → Prop} {w : World} {v : Value} {xs : List α} (h : SlRep sz M R w v xs) : ∃ A cap, v = .slice A xs.length cap ∧ xs.length ≤ cap ∧ cap ≤ M := by
  obtain ⟨A, cap, hv, h1, h2, _⟩ := h
  exact ⟨A, cap, hv, h1, h2⟩
theorem SlRep.len {α : Type} {sz M : Nat} {R : World → List Value → α → Prop} {w : World} {v : Value} {xs : List α} (h : SlRep sz M R w v xs) : xs.length ≤ M := by
  obtain ⟨A, cap, hv, h1, h2, _⟩ := h
  omega
/-- .. of cells: a slice is one cell. -/
def SlR {α : Type} (sz M : Nat) (R : World → List Value → α → Prop) (w : World) (cs : List Value) (xs : List α) : Prop := ∃ v, cs = [v] ∧ SlRep sz M R w v xs
theorem SlR.stays {α : Type} {sz M : Nat} {R : World → List Value → α → Prop} (hR : Stays R) : Stays (SlR sz M R) := fun _ _ _ _ hf ⟨v, h1, h2⟩ => ⟨v, h1, h2.fut hR hf⟩
theorem SlRep.nil {α : Type} {sz M : Nat} {R : World → List Value → α → Prop} {w : World} : SlRep sz M R w (.slice none 0 0) ([] : List α) :=
  ⟨none, 0, rfl, Nat.le_refl _, Nat.zero_le _, fun i x hx => by simp at hx⟩

/-- What a type's cells read as, within the form's own reach. -/
def Reads {α : Type} (P : Program) (t : TypeId) (R : World → List Value → α → Prop) : Prop :=
  ∀ (H : Type) (enc : TypeId × Value → H) (w : World) (base : Nat) (held : Bool) (fuel : Nat) (cs : List Value) (x : DataW H × List MemPlace), DataW.trod enc P w base (fun _ => true) held fuel t cs = some x →
    (∀ n ∈ x.1.weights P t, n ≤ reachBytes) → ∃ d, R w cs d
theorem Reads.imp {α : Type} {P : Program} {t : TypeId} {R R' : World → List Value → α → Prop} (h : Reads P t R) (hR : ∀ w cs d, R w cs d → R' w cs d) : Reads P t R' := fun H enc w base held fuel cs x hx hn => by
  obtain ⟨d, hd⟩ := h H enc w base held fuel cs x hx hn
  exact ⟨d, hR _ _ _ hd⟩

theorem exists_list {α : Type} {p : Nat → α → Prop} : ∀ n, (∀ i, i < n → ∃ x, p i x) → ∃ xs : List α, xs.length = n ∧ ∀ i x, xs[i]? = some x → p i x
  | 0, _ => ⟨[], rfl, fun i x hx => by simp at hx⟩
  | n + 1, h => by
    obtain ⟨xs, hl, hx⟩ := exists_list n fun i hi => h i (by omega)
    obtain ⟨y, hy⟩ := h n (by omega)
    refine ⟨xs ++ [y], by simp [hl], fun i x hi => ?_⟩
    rcases Nat.lt_or_ge i n with h' | h'
    · exact hx i x (by rwa [List.getElem?_append_left (by omega)] at hi)
    · rw [List.getElem?_append_right (by omega), hl] at hi
      have : i = n := by
        have := (List.getElem?_eq_some_iff.1 hi).1
        simp at this; omega
      subst this
      simp at hi
      rw [← hi]; exact hy

theorem weightsAll_mem {H : Type} {P : Program} {e : TypeId} : ∀ {ds : List (DataW H)} {d : DataW H}, d ∈ ds → ∀ n ∈ d.weights P e, n ∈ DataW.weightsAll P e ds
  | d0 :: r, d, hd, n, hn => by
    simp only [DataW.weightsAll, List.mem_append]
    rcases List.mem_cons.1 hd with rfl | h
    · exact .inl hn
    · exact .inr (weightsAll_mem h n hn)

theorem reads_slice {α : Type} {P : Program} {t e : TypeId} {sz M : Nat} {R : World → List Value → α → Prop} (ht : P.underlying t = some (.slice e)) (hc : P.cellsOf e = sz) (h0 : 0 < sz) (hM : ∀ c, c * P.bytesOf e ≤ reachBytes → c ≤ M) (hR : Reads P e R) : Reads P t (SlR sz M R) := by
  intro H enc w base held fuel cs x h hn
  rcases open_slice ht h with ⟨h1, _⟩ | ⟨a, len, cap, m, n, D, Pl, hcs, hb, hl, hm, hmm, hx, hi⟩
  · exact ⟨[], _, h1, SlRep.nil⟩
  · have hlm : len ≤ m := by rw [hmm]; simp; exact hl
    have hmc : m = cap := by rw [hmm]; simp
    have hw : x.1.weights P t = (len + (cap - len)) * P.bytesOf e :: (DataW.weightsAll P e ((List.range len).map D) ++ DataW.weightsAll P e ((List.range (m - len)).map fun j => D (len + j))) := by
      rw [hx]
      simp [DataW.weights, ht, hmc]
    have hcap : cap ≤ M := hM cap (by
      have := hn ((len + (cap - len)) * P.bytesOf e) (by rw [hw]; simp)
      rwa [show len + (cap - len) = cap by omega] at this)
    obtain ⟨xs, hxl, hxs⟩ := exists_list (p := fun i x => ∃ b off cs', some a = some ⟨b, off, none⟩ ∧ cs'.length = sz ∧ (∀ j c, cs'[j]? = some c → w.cell? ⟨b, off + (i * sz + j), none⟩ = some c) ∧ R w cs' x) len fun i hil => by
      obtain ⟨cs', h1, h2⟩ := hi i (by omega)
      obtain ⟨y, hy⟩ := hR H enc w base held n cs' _ h2 fun k hk => hn k (by
        rw [hw]
        refine List.mem_cons_of_mem _ (List.mem_append_left _ (weightsAll_mem (d := D i) ?_ k hk))
        exact List.mem_map.2 ⟨i, List.mem_range.2 hil, rfl⟩)
      rw [hc] at h1
      obtain ⟨_, hlen, hcell⟩ := World.cells?_some h1
      obtain ⟨ab, ao, asp⟩ := a
      have hsp : asp = none ∨ ∀ j, j < sz → False := by
        cases asp with
        | none => exact .inl rfl
        | some q =>
          right
          intro j hj
          have h0' := (hi 0 (by omega))
          obtain ⟨cs0, hz0, _⟩ := h0'
          rw [hc] at hz0
          obtain ⟨_, hlen0, hcell0⟩ := World.cells?_some hz0
          have := hcell0 0 h0
          rw [List.getElem?_eq_getElem (by omega)] at this
          unfold World.cell? Addr.add at this
          simp at this
          split at this <;> simp at this
      rcases hsp with rfl | hsp
      · refine ⟨y, ab, ao, cs', rfl, hlen, fun j c hj => ?_, hy⟩
        have hjl : j < sz := by rw [← hlen]; exact (List.getElem?_eq_some_iff.1 hj).1
        have := hcell j hjl
        rw [hj] at this
        rw [← this]
        congr 1
        unfold Addr.add
        by_cases h1' : i * sz = 0 <;> by_cases h2' : j = 0 <;> simp [h1', h2', Nat.add_assoc]
      · exact (hsp 0 h0).elim
    exact ⟨xs, _, hcs, some a, cap, by rw [hxl], by omega, hcap, hxs⟩

theorem reads_string {P : Program} {t : TypeId} (ht : P.underlying t = some .string) : Reads P t (fun _ cs (s : ByteArray) => cs = [.string s] ∧ s.size ≤ 140737488351232) := by
  intro H enc w base held fuel cs x h hn
  obtain ⟨s, h1, hx, h2⟩ := DataW.trod_string ht h
  refine ⟨s, h1, ?_⟩
  have := hn s.data.toList.length (by rw [hx]; simp [DataW.weights])
  simpa [reachBytes] using this
theorem reads_int {P : Program} {t : TypeId} {k : IntKind} (ht : P.underlying t = some (.int k)) : Reads P t (fun _ cs (n : Int) => cs = [.int k n] ∧ (Lit.int k n).wf = true) := by
  intro H enc w base held fuel cs x h _
  obtain ⟨s, h1, _, h2⟩ := DataW.trod_int ht h
  exact ⟨s, h1, h2⟩

theorem reads_field {α : Type} {P : Program} {f : Field} {R : World → List Value → α → Prop} {H : Type} {enc : TypeId × Value → H} {w : World} {base : Nat} {held : Bool} {t : TypeId} {fs : Array Field} {fuel : Nat} {cs : List Value} {x : DataW H × List MemPlace}
    (hs : P.underlying t = some (.struct fs)) (h : DataW.trod enc P w base (fun _ => true) held fuel t cs = some x) (hn : ∀ n ∈ x.1.weights P t, n ≤ reachBytes) (i : Nat) (hi : fs[i]? = some f) (hR : Reads P f.type R) :
    ∃ d, R w ((cs.drop f.offset).take (P.cellsOf f.type)) d := by
  obtain ⟨xs, n, _, hx, _, hl, hf⟩ := DataW.trod_struct hs h
  have h1 := hf i f hi
  have hil : i < fs.size := (Array.getElem?_eq_some_iff.1 hi).1
  have hxi : xs[i]? = some (xs[i]'(by omega)) := List.getElem?_eq_getElem (by omega)
  rw [hxi] at h1
  refine hR H enc w base held n _ _ h1 fun k hk => hn k ?_
  rw [hx]
  simp only [DataW.weights, hs]
  refine DataW.weights_mem_each (j := i) (t := f.type) (d := (xs[i]'(by omega)).1) ?_ (by simp [hxi]) k hk
  have : fs.toList[i]? = some f := by simpa using hi
  simp [this]
theorem reads_len {P : Program} {H : Type} {enc : TypeId × Value → H} {w : World} {base : Nat} {held : Bool} {t : TypeId} {fs : Array Field} {fuel : Nat} {cs : List Value} {x : DataW H × List MemPlace}
    (hs : P.underlying t = some (.struct fs)) (h : DataW.trod enc P w base (fun _ => true) held fuel t cs = some x) : cs.length = P.cellsOf t := by
  obtain ⟨_, _, _, _, hl, _, _⟩ := DataW.trod_struct hs h
  exact hl

/-- api.Value. -/
structure V where
  k : Int
  n : Int
  s : ByteArray
def V.ok (x : V) : Prop := (Lit.int .i8 x.k).wf = true ∧ (Lit.int .i64 x.n).wf = true ∧ x.s.size ≤ 140737488351232
def V.cells (x : V) : List Value := [.int .i8 x.k, .int .i64 x.n, .string x.s]
def V.val (x : V) : Value := .agg #[.int .i8 x.k, .int .i64 x.n, .string x.s]
def RV (_ : World) (cs : List Value) (x : V) : Prop := cs = x.cells ∧ x.ok
theorem RV.stays : Stays RV := fun _ _ _ _ _ h => h
/-- What an argument holds; what a contract asks. -/
abbrev ValsA : World → Value → List V → Prop := SlRep 3 4398046511104 RV
abbrev Vals : World → Value → List V → Prop := SlRep 3 9223372036854775807 RV
theorem ValsA.vals {w : World} {v : Value} {xs : List V} (h : ValsA w v xs) : Vals w v xs := h.more (by omega)
theorem reads_V {P : Program} {t : TypeId} {f0 f1 f2 : Field} (hs : P.underlying t = some (.struct #[f0, f1, f2])) (hC : P.cellsOf t = 3) (h0 : P.underlying f0.type = some (.int .i8)) (h1 : P.underlying f1.type = some (.int .i64)) (h2 : P.underlying f2.type = some .string)
    (o0 : f0.offset = 0) (o1 : f1.offset = 1) (o2 : f2.offset = 2) (c0 : P.cellsOf f0.type = 1) (c1 : P.cellsOf f1.type = 1) (c2 : P.cellsOf f2.type = 1) : Reads P t RV := by
  intro H enc w base held fuel cs x h hn
  have hl := (reads_len hs h).trans hC
  obtain ⟨k, e0, w0⟩ := reads_field hs h hn 0 rfl (reads_int h0)
  obtain ⟨n, e1, w1⟩ := reads_field hs h hn 1 rfl (reads_int h1)
  obtain ⟨s, e2, w2⟩ := reads_field hs h hn 2 rfl (reads_string h2)
  match cs, hl with
  | [a, b, c], _ =>
    simp [o0, o1, o2, c0, c1, c2] at e0 e1 e2
    exact ⟨⟨k, n, s⟩, by rw [e0, e1, e2]; rfl, w0, w1, w2⟩

/-- api.Fact: its name, its tuple, and the slice's value. -/
structure Fc where
  p : ByteArray
  a : List V
def RF (w : World) (cs : List Value) (x : Fc) : Prop := ∃ v, cs = [.string x.p, v] ∧ x.p.size ≤ 140737488351232 ∧ ValsA w v x.a
theorem RF.stays : Stays RF := fun _ _ _ _ hf ⟨v, h1, h2, h3⟩ => ⟨v, h1, h2, h3.fut RV.stays hf⟩
abbrev Facs : World → Value → List Fc → Prop := SlRep 2 3518437208883 RF
theorem reads_F {P : Program} {t : TypeId} {f0 f1 : Field} (hs : P.underlying t = some (.struct #[f0, f1])) (hC : P.cellsOf t = 2) (h0 : P.underlying f0.type = some .string) (h1 : Reads P f1.type (SlR 3 4398046511104 RV))
    (o0 : f0.offset = 0) (o1 : f1.offset = 1) (c0 : P.cellsOf f0.type = 1) (c1 : P.cellsOf f1.type = 1) : Reads P t RF := by
  intro H enc w base held fuel cs x h hn
  have hl := (reads_len hs h).trans hC
  obtain ⟨s, e0, w0⟩ := reads_field hs h hn 0 rfl (reads_string h0)
  obtain ⟨xs, v, e1, w1⟩ := reads_field hs h hn 1 rfl h1
  match cs, hl with
  | [a, b], _ =>
    simp [o0, o1, c0, c1] at e0 e1
    exact ⟨⟨s, xs⟩, v, by rw [e0, e1], w0, w1⟩

/-- An argument. -/
theorem reads_arg {α : Type} {P : Program} {t : TypeId} {R : World → List Value → α → Prop} (hR : Reads P t R) {H : Type} {enc : TypeId × Value → H} {w : World} {v : Value} {d : DataW H} {ps : List MemPlace} (h : DataW.Trod enc P w 0 (fun _ => true) true t v d ps) (hs : ∀ n ∈ d.weights P t, n ≤ reachBytes) :
    ∃ x, R w v.cells.toList x := by
  obtain ⟨n, hn⟩ := h
  exact hR H enc w 0 true n _ _ hn hs
theorem arg_struct {P : Program} {w : World} {r : Reach} {b : Nat} {t : TypeId} {fs : Array Field} {v : Value} (hs : P.underlying t = some (.struct fs)) (hv : Value.okWide P w r b t v) : ∃ cs, v = .agg cs := by
  obtain ⟨cs, h, _⟩ := okWide_struct hs hv
  exact ⟨cs, h⟩
theorem arg_V {w : World} {v : Value} {x : V} (h : RV w v.cells.toList x) (hv : ∃ cs, v = .agg cs) : v = x.val := by
  obtain ⟨⟨cs⟩, rfl⟩ := hv
  have h1 : cs = x.cells := by simpa [Value.cells] using h.1
  subst h1; rfl
theorem arg_F {w : World} {v : Value} {x : Fc} (h : RF w v.cells.toList x) (hv : ∃ cs, v = .agg cs) : ∃ u, v = .agg #[.string x.p, u] ∧ x.p.size ≤ 140737488351232 ∧ ValsA w u x.a := by
  obtain ⟨⟨cs⟩, rfl⟩ := hv
  obtain ⟨u, h1, h2, h3⟩ := h
  have h1 : cs = [.string x.p, u] := by simpa [Value.cells] using h1
  subst h1; exact ⟨u, rfl, h2, h3⟩
theorem arg_slice {α : Type} {P : Program} {sz M : Nat} {R : World → List Value → α → Prop} {w : World} {r : Reach} {b : Nat} {t e : TypeId} {v : Value} {xs : List α} (h : SlR sz M R w v.cells.toList xs) (ht : P.underlying t = some (.slice e)) (hv : Value.okWide P w r b t v) : SlRep sz M R w v xs := by
  obtain ⟨a, len, cap, rfl⟩ := okWide_slice ht hv
  obtain ⟨u, h1, h2⟩ := h
  simp [Value.cells] at h1
  rw [h1]; exact h2

/-- A slice literal of ints. -/
def RI (_ : World) (cs : List Value) (n : Int) : Prop := cs = [.int .i64 n]
theorem RI.stays : Stays RI := fun _ _ _ _ _ h => h
theorem ints_new (w : World) (e : TypeId) (xs : List Int) (hl : xs.length ≤ 17592186044416) : SlRep 1 17592186044416 RI (w.alloc (.cells (xs.map (Value.int .i64)).toArray e)) (.slice (some ⟨w.heap.size, 0, none⟩) xs.length xs.length) xs := by
  refine ⟨_, _, rfl, Nat.le_refl _, hl, fun i x hx => ⟨_, _, [.int .i64 x], rfl, rfl, fun j c hj => ?_, rfl⟩⟩
  have hj0 : j = 0 := by
    have := (List.getElem?_eq_some_iff.1 hj).1
    simp at this; omega
  subst hj0
  simp at hj
  subst hj
  rw [show 0 + (i * 1 + 0) = i by omega]
  refine (World.cell?_alloc_mark w _ e (0, 0) i).trans ?_
  simp [hx]

/-! ### A block of the call's own, cell by cell -/
def BlkF (w : World) (g : Nat) (t : TypeId) (N : Nat) (f : Nat → Value) : Prop :=
  ∃ arr : Array Value, w.heap[g]? = some (.cells arr t (0, 0)) ∧ arr.size = N ∧ ∀ j, j < N → arr[j]? = some (f j)
section
variable {w w' : World} {g N : Nat} {t : TypeId} {f : Nat → Value}
theorem BlkF.lt (h : BlkF w g t N f) : g < w.heap.size := by
  obtain ⟨arr, h1, _⟩ := h
  rcases Nat.lt_or_ge g w.heap.size with h' | h'
  · exact h'
  · rw [Array.getElem?_eq_none h'] at h1; cases h1
theorem BlkF.cell (h : BlkF w g t N f) {j : Nat} (hj : j < N) : w.cell? ⟨g, j, none⟩ = some (f j) := by
  obtain ⟨arr, h1, h2, h3⟩ := h
  simp [World.cell?, h1, h3 j hj]
theorem BlkF.free (h : BlkF w g t N f) (j : Nat) : w.frozen? ⟨g, j, none⟩ = false := by
  obtain ⟨arr, h1, _⟩ := h
  simp [World.frozen?, h1]
theorem BlkF.fut (h : BlkF w g t N f) (hf : Fut w w') : BlkF w' g t N f := by
  obtain ⟨arr, h1, h2⟩ := h
  exact ⟨arr, hf.block h1, h2⟩
theorem BlkF.congr {f' : Nat → Value} (h : BlkF w g t N f) (he : ∀ j, j < N → f j = f' j) : BlkF w g t N f' := by
  obtain ⟨arr, h1, h2, h3⟩ := h
  exact ⟨arr, h1, h2, fun j hj => by rw [h3 j hj, he j hj]⟩
theorem BlkF.set (h : BlkF w g t N f) (i : Nat) (v : Value) : BlkF (w.setCell ⟨g, i, none⟩ v) g t N (fun j => if j = i then v else f j) := by
  obtain ⟨arr, h1, h2, h3⟩ := h
  refine ⟨arr.setIfInBounds i v, ?_, by simp [h2], fun j hj => ?_⟩
  · simp [World.setCell, Array.getElem?_modify, h1]
  · by_cases hij : j = i
    · subst hij; simp [h2, hj]
    · rw [Array.getElem?_setIfInBounds_ne (Ne.symm hij), h3 j hj]; simp [hij]
theorem BlkF.far (h : BlkF w g t N f) {p : Addr} (hp : g ≠ p.block) (v : Value) : BlkF (w.setCell p v) g t N f := by
  obtain ⟨arr, h1, h2⟩ := h
  exact ⟨arr, (Below.heap_setCell w p v g hp).trans h1, h2⟩
theorem BlkF.alloc (h : BlkF w g t N f) (o : Obj) : BlkF (w.alloc o) g t N f := h.fut (Fut.alloc w o)
theorem BlkF.drew (h : BlkF w g t N f) : BlkF w.drew g t N f := h
theorem BlkF.new (w : World) (t : TypeId) (arr : Array Value) : BlkF (w.alloc (.cells arr t)) w.heap.size t arr.size (fun j => arr.getD j undef) :=
  ⟨arr, heap_alloc_new w _, rfl, fun j hj => by simp [hj]⟩
end

/-- The cells of a list of values, one behind the other. -/
def flat (xs : List V) (j : Nat) : Value := ((xs[j / 3]?).map fun x => x.cells.getD (j % 3) undef).getD undef
theorem flat_at (xs : List V) (k : Nat) (hk : k < xs.length) : flat xs (k * 3) = .int .i8 (xs[k]).k ∧ flat xs (k * 3 + 1) = .int .i64 (xs[k]).n ∧ flat xs (k * 3 + 2) = .string (xs[k]).s := by
  unfold flat
  rw [show k * 3 / 3 = k by omega, show (k * 3 + 1) / 3 = k by omega, show (k * 3 + 2) / 3 = k by omega, show k * 3 % 3 = 0 by omega, show (k * 3 + 1) % 3 = 1 by omega, show (k * 3 + 2) % 3 = 2 by omega, List.getElem?_eq_getElem hk]
  exact ⟨rfl, rfl, rfl⟩
/-- A list with a block of its own. -/
theorem vals_of_blk {w : World} {g t N cap : Nat} {xs : List V} {f : Nat → Value} (h : BlkF w g t N f) (hN : xs.length * 3 ≤ N) (hf : ∀ j, j < xs.length * 3 → f j = flat xs j) (hc : xs.length ≤ cap) (hm : cap ≤ 9223372036854775807) (hok : ∀ x ∈ xs, x.ok) :
    Vals w (.slice (some ⟨g, 0, none⟩) xs.length cap) xs := by
  refine ⟨_, _, rfl, hc, hm, fun i x hx => ⟨g, 0, x.cells, rfl, rfl, fun j c hj => ?_, rfl, hok x (List.mem_of_getElem? hx)⟩⟩
  have hil : i < xs.length := (List.getElem?_eq_some_iff.1 hx).1
  have hjl : j < 3 := (List.getElem?_eq_some_iff.1 hj).1
  rw [Nat.zero_add, h.cell (by omega), hf _ (by omega)]
  unfold flat
  rw [show (i * 3 + j) / 3 = i by omega, show (i * 3 + j) % 3 = j by omega, hx]
  simp [List.getD, hj]

theorem run_make_rowN {P : Program} (t e : TypeId) (i : TypeInfo) (z : Value) (ht : P.underlying t = some (.slice e)) (hi : P.info? e = some i) (hz : i.zero = some z)
    (kl kc : IntKind) (n c : Nat) (hnc : n ≤ c) (hbytes : i.bytes * c ≤ 281474976710656) (h63 : c ≤ 9223372036854775807) (w : World) :
    (Instr.makeSlice t (.int kl (n : Int)) (.int kc (c : Int))).run P w = .ok (.slice (some ⟨w.heap.size, 0, none⟩) n c) (w.alloc (.cells (madeCells z.cells (c * i.size)) e)) := by
  have hb : (i.bytes : Int) * (c : Int) ≤ 281474976710656 := by
    have h : ((i.bytes * c : Nat) : Int) ≤ 281474976710656 := by omega
    rwa [Int.natCast_mul] at h
  have hr := run_make (P := P) w t e i z ht hi hz kl kc n c (by omega) (by omega) hb (by omega)
  simp only [Int.toNat_natCast] at hr
  exact hr

end Go.Proofs.Ytcpphabehpbmlaa
/- Rules as data: terms, expression trees, literals, heads' terms, rules; how they are read. -/
namespace Go.Proofs.Ytcpphabehpbmlaa
open Go.RowKit Go.ChangeShapes Go.WideShapes Go.ChangeAt Go.Deep
set_option linter.unusedSimpArgs false
set_option linter.unusedVariables false

/-- Reads, of data smaller than k: for types that hold themselves. -/
def ReadsD {α : Type} (k : Nat) (P : Program) (t : TypeId) (R : World → List Value → α → Prop) : Prop :=
  ∀ (H : Type) (enc : TypeId × Value → H) (w : World) (base : Nat) (held : Bool) (fuel : Nat) (cs : List Value) (x : DataW H × List MemPlace), DataW.trod enc P w base (fun _ => true) held fuel t cs = some x →
    (∀ n ∈ x.1.weights P t, n ≤ reachBytes) → SizeOf.sizeOf x.1 < k → ∃ d, R w cs d
theorem readsD_of {α : Type} {P : Program} {t : TypeId} {R : World → List Value → α → Prop} (h : Reads P t R) (k : Nat) : ReadsD k P t R := fun H enc w base held fuel cs x hx hn _ => h H enc w base held fuel cs x hx hn
theorem reads_ofD {α : Type} {P : Program} {t : TypeId} {R : Nat → World → List Value → α → Prop} (h : ∀ k, ReadsD k P t (R k)) : Reads P t (fun w cs d => ∃ k, R k w cs d) := fun H enc w base held fuel cs x hx hn => by
  obtain ⟨d, hd⟩ := h _ H enc w base held fuel cs x hx hn (Nat.lt_succ_self _)
  exact ⟨d, _, hd⟩
theorem readsD_slice {α : Type} {P : Program} {t e : TypeId} {sz M : Nat} {R : World → List Value → α → Prop} (ht : P.underlying t = some (.slice e)) (hc : P.cellsOf e = sz) (h0 : 0 < sz) (hM : ∀ c, c * P.bytesOf e ≤ reachBytes → c ≤ M) {k : Nat} (hR : ReadsD k P e R) : ReadsD k P t (SlR sz M R) := by
  intro H enc w base held fuel cs x h hn hsz
  rcases open_slice ht h with ⟨h1, _⟩ | ⟨a, len, cap, m, n, D, Pl, hcs, hb, hl, hm, hmm, hx, hi⟩
  · exact ⟨[], _, h1, SlRep.nil⟩
  · have hlm : len ≤ m := by rw [hmm]; simp; exact hl
    have hmc : m = cap := by rw [hmm]; simp
    have hw : x.1.weights P t = (len + (cap - len)) * P.bytesOf e :: (DataW.weightsAll P e ((List.range len).map D) ++ DataW.weightsAll P e ((List.range (m - len)).map fun j => D (len + j))) := by
      rw [hx]
      simp [DataW.weights, ht, hmc]
    have hcap : cap ≤ M := hM cap (by
      have := hn ((len + (cap - len)) * P.bytesOf e) (by rw [hw]; simp)
      rwa [show len + (cap - len) = cap by omega] at this)
    obtain ⟨xs, hxl, hxs⟩ := exists_list (p := fun i x => ∃ b off cs', some a = some ⟨b, off, none⟩ ∧ cs'.length = sz ∧ (∀ j c, cs'[j]? = some c → w.cell? ⟨b, off + (i * sz + j), none⟩ = some c) ∧ R w cs' x) len fun i hil => by
      obtain ⟨cs', h1, h2⟩ := hi i (by omega)
      obtain ⟨y, hy⟩ := hR H enc w base held n cs' _ h2 (fun k hk => hn k (by
        rw [hw]
        refine List.mem_cons_of_mem _ (List.mem_append_left _ (weightsAll_mem (d := D i) ?_ k hk))
        exact List.mem_map.2 ⟨i, List.mem_range.2 hil, rfl⟩)) (Nat.lt_trans (by
          rw [hx]
          have h9 : SizeOf.sizeOf (D i) < SizeOf.sizeOf ((List.range len).map D) := List.sizeOf_lt_of_mem (List.mem_map.2 ⟨i, List.mem_range.2 hil, rfl⟩)
          show SizeOf.sizeOf (D i) < SizeOf.sizeOf (DataW.slice ((List.range len).map D) ((List.range (m - len)).map fun j => D (len + j)))
          rw [DataW.slice.sizeOf_spec]
          omega) hsz)
      rw [hc] at h1
      obtain ⟨_, hlen, hcell⟩ := World.cells?_some h1
      obtain ⟨ab, ao, asp⟩ := a
      have hsp : asp = none ∨ ∀ j, j < sz → False := by
        cases asp with
        | none => exact .inl rfl
        | some q =>
          right
          intro j hj
          have h0' := (hi 0 (by omega))
          obtain ⟨cs0, hz0, _⟩ := h0'
          rw [hc] at hz0
          obtain ⟨_, hlen0, hcell0⟩ := World.cells?_some hz0
          have := hcell0 0 h0
          rw [List.getElem?_eq_getElem (by omega)] at this
          unfold World.cell? Addr.add at this
          simp at this
          split at this <;> simp at this
      rcases hsp with rfl | hsp
      · refine ⟨y, ab, ao, cs', rfl, hlen, fun j c hj => ?_, hy⟩
        have hjl : j < sz := by rw [← hlen]; exact (List.getElem?_eq_some_iff.1 hj).1
        have := hcell j hjl
        rw [hj] at this
        rw [← this]
        congr 1
        unfold Addr.add
        by_cases h1' : i * sz = 0 <;> by_cases h2' : j = 0 <;> simp [h1', h2', Nat.add_assoc]
      · exact (hsp 0 h0).elim
    exact ⟨xs, _, hcs, some a, cap, by rw [hxl], by omega, hcap, hxs⟩

theorem readsD_field {α : Type} {P : Program} {f : Field} {R : World → List Value → α → Prop} {H : Type} {enc : TypeId × Value → H} {w : World} {base : Nat} {held : Bool} {t : TypeId} {fs : Array Field} {fuel : Nat} {cs : List Value} {x : DataW H × List MemPlace}
    (hs : P.underlying t = some (.struct fs)) (h : DataW.trod enc P w base (fun _ => true) held fuel t cs = some x) (hn : ∀ n ∈ x.1.weights P t, n ≤ reachBytes) (i : Nat) (hi : fs[i]? = some f) {k : Nat} (hk : SizeOf.sizeOf x.1 < k + 1) (hR : ReadsD k P f.type R) :
    ∃ d, R w ((cs.drop f.offset).take (P.cellsOf f.type)) d := by
  obtain ⟨xs, n, _, hx, _, hl, hf⟩ := DataW.trod_struct hs h
  have h1 := hf i f hi
  have hil : i < fs.size := (Array.getElem?_eq_some_iff.1 hi).1
  have hxi : xs[i]? = some (xs[i]'(by omega)) := List.getElem?_eq_getElem (by omega)
  rw [hxi] at h1
  have hsz : SizeOf.sizeOf (xs[i]'(by omega)).1 < k := by
    have h9 : SizeOf.sizeOf (xs[i]'(by omega)).1 < SizeOf.sizeOf (xs.map (·.1)) := List.sizeOf_lt_of_mem (List.mem_map.2 ⟨_, List.getElem_mem (by omega), rfl⟩)
    rw [hx, DataW.agg.sizeOf_spec] at hk
    omega
  refine hR H enc w base held n _ _ h1 (fun k hk => hn k ?_) hsz
  rw [hx]
  simp only [DataW.weights, hs]
  refine DataW.weights_mem_each (j := i) (t := f.type) (d := (xs[i]'(by omega)).1) ?_ (by simp [hxi]) k hk
  have : fs.toList[i]? = some f := by simpa using hi
  simp [this]

/-! ### Terms, trees -/
structure Tm where
  v : ByteArray
  x : V
def Tm.cells (t : Tm) : List Value := [.string t.v, .int .i8 t.x.k, .int .i64 t.x.n, .string t.x.s]
def Tm.ok (t : Tm) : Prop := t.v.size ≤ 140737488351232 ∧ t.x.ok
def RTm (_ : World) (cs : List Value) (t : Tm) : Prop := cs = t.cells ∧ t.ok
theorem RTm.stays : Stays RTm := fun _ _ _ _ _ h => h
inductive Ex where
  | mk (op : Int) (t : Tm) (kids : List Ex)
def RE : Nat → World → List Value → Ex → Prop
  | 0, _, _, _ => False
  | n + 1, w, cs, .mk op t kids => ∃ kv, cs = [.int .i8 op, .string t.v, .int .i8 t.x.k, .int .i64 t.x.n, .string t.x.s, kv] ∧ (Lit.int .i8 op).wf = true ∧ t.ok ∧ SlRep 6 1759218604441 (RE n) w kv kids
theorem RE.stays : ∀ n, Stays (RE n)
  | 0 => fun _ _ _ _ _ h => h
  | n + 1 => fun w w' cs x hf h => by
    obtain ⟨op, t, kids⟩ := x
    obtain ⟨kv, h1, h2, h3, h4⟩ := h
    exact ⟨kv, h1, h2, h3, h4.fut (RE.stays n) hf⟩
theorem RE.mono : ∀ {n m : Nat} (_ : n ≤ m) {w : World} {cs : List Value} {x : Ex}, RE n w cs x → RE m w cs x
  | 0, _, _, _, _, _, h => h.elim
  | n + 1, m, hm, w, cs, x, h => by
    obtain ⟨op, t, kids⟩ := x
    obtain ⟨m', rfl⟩ : ∃ m', m = m' + 1 := ⟨m - 1, by omega⟩
    obtain ⟨kv, h1, h2, h3, h4⟩ := h
    exact ⟨kv, h1, h2, h3, h4.imp fun cs x hx => RE.mono (by omega) hx⟩
def RX (w : World) (cs : List Value) (x : Ex) : Prop := ∃ n, RE n w cs x
theorem RX.stays : Stays RX := fun _ _ _ _ hf ⟨n, h⟩ => ⟨n, RE.stays n _ _ _ _ hf h⟩
structure Lt where
  k : Int
  p : ByteArray
  a : List Tm
  r : Int
  l : Ex
  d : Ex
def RLt (w : World) (cs : List Value) (x : Lt) : Prop :=
  ∃ av cl cd, cs = .int .i8 x.k :: .string x.p :: av :: .int .i8 x.r :: (cl ++ cd) ∧ cl.length = 6 ∧ cd.length = 6 ∧ (Lit.int .i8 x.k).wf = true ∧ (Lit.int .i8 x.r).wf = true ∧ x.p.size ≤ 140737488351232 ∧ SlRep 4 2932031007402 RTm w av x.a ∧ RX w cl x.l ∧ RX w cd x.d
theorem RLt.stays : Stays RLt := fun _ _ _ _ hf ⟨av, cl, cd, h1, h2, h3, h4, h5, h6, h7, h8, h9⟩ => ⟨av, cl, cd, h1, h2, h3, h4, h5, h6, h7.fut RTm.stays hf, RX.stays _ _ _ _ hf h8, RX.stays _ _ _ _ hf h9⟩
structure Ar where
  g : Int
  t : Tm
def RAr (_ : World) (cs : List Value) (x : Ar) : Prop := cs = .int .i8 x.g :: x.t.cells ∧ (Lit.int .i8 x.g).wf = true ∧ x.t.ok
theorem RAr.stays : Stays RAr := fun _ _ _ _ _ h => h
structure Ru where
  p : ByteArray
  h : List Ar
  b : List Lt
def RRu (w : World) (cs : List Value) (x : Ru) : Prop := ∃ hv bv, cs = [.string x.p, hv, bv] ∧ x.p.size ≤ 140737488351232 ∧ SlRep 5 2513169434916 RAr w hv x.h ∧ SlRep 16 651562446089 RLt w bv x.b
theorem RRu.stays : Stays RRu := fun _ _ _ _ hf ⟨hv, bv, h1, h2, h3, h4⟩ => ⟨hv, bv, h1, h2, h3.fut RAr.stays hf, h4.fut RLt.stays hf⟩
end Go.Proofs.Ytcpphabehpbmlaa
/- Orders, plain: numbers, lists place by place. No program. -/
namespace Go.Proofs.Ytcpphabehpbmlaa
open Go.RowKit
set_option linter.unusedSimpArgs false
set_option linter.unusedVariables false

def cmpI (a b : Int) : Int := if a < b then -1 else if b < a then 1 else 0
structure Ord3 {α : Type} (c : α → α → Int) : Prop where
  rng : ∀ x y, c x y = -1 ∨ c x y = 0 ∨ c x y = 1
  swap : ∀ x y, c y x = - c x y
  zero : ∀ x y, c x y = 0 ↔ x = y
  tr : ∀ x y z, c x y ≤ 0 → c y z ≤ 0 → c x z ≤ 0
theorem Ord3.refl {α : Type} {c : α → α → Int} (h : Ord3 c) (x : α) : c x x = 0 := (h.zero x x).2 rfl
theorem Ord3.lt {α : Type} {c : α → α → Int} (h : Ord3 c) {x y z : α} (h1 : c x y < 0) (h2 : c y z ≤ 0) : c x z < 0 := by
  have h3 := h.tr x y z (by omega) h2
  rcases Int.lt_or_eq_of_le h3 with h4 | h4
  · exact h4
  · have e := (h.zero x z).1 h4
    subst e
    have := h.swap x y
    omega
theorem Ord3.lt' {α : Type} {c : α → α → Int} (h : Ord3 c) {x y z : α} (h1 : c x y ≤ 0) (h2 : c y z < 0) : c x z < 0 := by
  have h3 := h.tr x y z h1 (by omega)
  rcases Int.lt_or_eq_of_le h3 with h4 | h4
  · exact h4
  · have e := (h.zero x z).1 h4
    subst e
    have := h.swap x y
    omega

def lex (a b : Int) : Int := if a ≠ 0 then a else b
theorem lex_ord {α β γ : Type} {c : α → α → Int} {d : β → β → Int} (hc : Ord3 c) (hd : Ord3 d) (p : γ → α) (q : γ → β) (hinj : ∀ x y, p x = p y → q x = q y → x = y) : Ord3 (fun x y : γ => lex (c (p x) (p y)) (d (q x) (q y))) := by
  constructor
  · intro x y
    unfold lex
    split
    · exact hc.rng _ _
    · exact hd.rng _ _
  · intro x y
    simp only [lex]
    rw [hc.swap (p x), hd.swap (q x)]
    by_cases h : c (p x) (p y) = 0 <;> simp [h]
  · intro x y
    simp only [lex]
    by_cases h : c (p x) (p y) = 0
    · simp only [h, ne_eq, not_true_eq_false, if_false]
      rw [hd.zero]
      exact ⟨hinj _ _ ((hc.zero _ _).1 h), fun e => by rw [e]⟩
    · simp only [ne_eq, h, not_false_eq_true, if_true]
      exact ⟨fun e => e.elim, fun e => by subst e; exact absurd (hc.refl _) h⟩
  · intro x y z h1 h2
    simp only [lex] at h1 h2 ⊢
    by_cases a : c (p x) (p y) = 0
    · by_cases b : c (p y) (p z) = 0
      · have e1 := (hc.zero _ _).1 a
        rw [e1, b]
        simp only [ne_eq, not_true_eq_false, if_false]
        rw [if_neg (by simpa using a)] at h1
        rw [if_neg (by simpa using b)] at h2
        exact hd.tr _ _ _ h1 h2
      · rw [if_pos b] at h2
        have := hc.lt' (x := p x) (y := p y) (z := p z) (by omega) (by omega)
        rw [if_pos (by omega)]
        omega
    · rw [if_pos a] at h1
      have hb : c (p y) (p z) ≤ 0 := by
        by_cases b : c (p y) (p z) = 0
        · omega
        · rwa [if_pos b] at h2
      have := hc.lt (x := p x) (y := p y) (z := p z) (by omega) hb
      rw [if_pos (by omega)]
      omega

theorem ordI : Ord3 cmpI := by
  constructor
  · intro x y; unfold cmpI; (repeat' split) <;> simp
  · intro x y; unfold cmpI; (repeat' split) <;> omega
  · intro x y; unfold cmpI; (repeat' split) <;> omega
  · intro x y z; unfold cmpI; (repeat' split) <;> omega

/-- Lists, place by place. -/
def lcmp {α : Type} (c : α → α → Int) : List α → List α → Int
  | [], [] => 0
  | [], _ :: _ => -1
  | _ :: _, [] => 1
  | x :: r, y :: q => if c x y ≠ 0 then c x y else lcmp c r q
section
variable {α : Type} {c : α → α → Int} (h : Ord3 c)
include h
theorem lcmp_rng : ∀ x y : List α, lcmp c x y = -1 ∨ lcmp c x y = 0 ∨ lcmp c x y = 1
  | [], [] => by simp [lcmp]
  | [], _ :: _ => by simp [lcmp]
  | _ :: _, [] => by simp [lcmp]
  | x :: r, y :: q => by
    simp only [lcmp]
    split
    · exact h.rng _ _
    · exact lcmp_rng r q
theorem lcmp_swap : ∀ x y : List α, lcmp c y x = - lcmp c x y
  | [], [] => rfl
  | [], _ :: _ => rfl
  | _ :: _, [] => rfl
  | x :: r, y :: q => by
    simp only [lcmp]
    rw [h.swap x y, lcmp_swap r q]
    by_cases a : c x y = 0 <;> simp [a]
theorem lcmp_zero : ∀ x y : List α, lcmp c x y = 0 ↔ x = y
  | [], [] => by simp [lcmp]
  | [], _ :: _ => by simp [lcmp]
  | _ :: _, [] => by simp [lcmp]
  | x :: r, y :: q => by
    simp only [lcmp]
    by_cases a : c x y = 0
    · simp only [a, ne_eq, not_true_eq_false, if_false, lcmp_zero r q, List.cons.injEq]
      exact ⟨fun e => ⟨(h.zero _ _).1 a, e⟩, fun e => e.2⟩
    · simp only [ne_eq, a, not_false_eq_true, if_true, List.cons.injEq]
      exact ⟨fun e => e.elim, fun e => absurd ((h.zero _ _).2 e.1) a⟩
theorem lcmp_tr : ∀ x y z : List α, lcmp c x y ≤ 0 → lcmp c y z ≤ 0 → lcmp c x z ≤ 0
  | [], _, [], _, _ => by simp [lcmp]
  | [], _, _ :: _, _, _ => by simp [lcmp]
  | _ :: _, [], _, h1, _ => by simp [lcmp] at h1
  | _ :: _, _ :: _, [], _, h2 => by simp [lcmp] at h2
  | x :: r, y :: q, z :: s, h1, h2 => by
    simp only [lcmp] at h1 h2 ⊢
    by_cases a : c x y = 0
    · by_cases b : c y z = 0
      · have e1 := (h.zero _ _).1 a
        rw [e1, b]
        simp only [ne_eq, not_true_eq_false, if_false]
        rw [if_neg (by simpa using a)] at h1
        rw [if_neg (by simpa using b)] at h2
        exact lcmp_tr r q s h1 h2
      · rw [if_pos b] at h2
        have := h.lt' (x := x) (y := y) (z := z) (by omega) (by omega)
        rw [if_pos (by omega)]
        omega
    · rw [if_pos a] at h1
      have hb : c y z ≤ 0 := by
        by_cases b : c y z = 0
        · omega
        · rwa [if_pos b] at h2
      have := h.lt (x := x) (y := y) (z := z) (by omega) hb
      rw [if_pos (by omega)]
      omega
theorem lcmp_ord : Ord3 (lcmp c) := ⟨lcmp_rng h, lcmp_swap h, lcmp_zero h, lcmp_tr h⟩
end

end Go.Proofs.Ytcpphabehpbmlaa
/- Contracts of Go's library at this dump, out of the kit's shelf (lay-shelf.mjs, lay-plain.mjs), in plain words. -/

namespace Go.Proofs
open Go.Shelf
shelf_tried
end Go.Proofs
/- Comparisons: cmp.Compare, cmp.Or, value.Compare, the reference's Compare; value.Holds, the reference's Holds. -/
namespace Go.Proofs.Ytcpphabehpbmlaa
open Go.RowKit
set_option linter.unusedSimpArgs false
set_option linter.unusedVariables false

theorem cellsV : Try.prog.cellsOf 36 = 3 := by kernel_rfl
theorem bytesV : Try.prog.bytesOf 36 = 32 := by kernel_rfl
/-- What an api.Value reads as; a list of them. -/
theorem rV : Reads Try.prog 36 RV := reads_V Try.underlying36 (by kernel_rfl) Try.underlying34 Try.underlying2 Try.underlying9 rfl rfl rfl (by kernel_rfl) (by kernel_rfl) (by kernel_rfl)
/-- What a Check answers. -/
def chk (k n : Int) (s : ByteArray) : Int := if (k == 1) = true ∧ s.toList.isEmpty = true then 0 else if (k == 2) = true ∧ n = 0 ∧ s.size ≤ 200 then 0 else 10

set_option maxHeartbeats 400000 in
theorem check_any (k n : Int) (s : ByteArray) (w : World) (hs : s.size ≤ 140737488351232) :
    Calls Try.prog 72 #[.agg #[.int .i8 k, .int .i64 n, .string s]] w fun e w' => e = .returned (.int .i64 (chk k n s)) ∧ Fut w w' := by
  go_enter Try.func72, Try.ntmps72
  go_wp2
  all_goals go_ret
  all_goals refine ⟨?_, Fut.alloc _ _⟩
  all_goals (congr 2; unfold chk)
  all_goals simp_all
  all_goals omega
def firstNZ : List Int → Int
  | [] => 0
  | a :: r => if a ≠ 0 then a else firstNZ r
theorem firstNZ_drop (xs : List Int) (k : Nat) (h : ∀ i, i < k → xs.getD i 0 = 0) : firstNZ xs = firstNZ (xs.drop k) := by
  induction k generalizing xs with
  | zero => rfl
  | succ k ih =>
    cases xs with
    | nil => rfl
    | cons a r =>
      have h0 : a = 0 := by simpa using h 0 (by omega)
      rw [firstNZ, if_neg (by simpa using h0), List.drop_succ_cons]
      exact ih r fun i hi => by simpa using h (i + 1) (by omega)

/-! ### The order of values -/
theorem cmpBytes_swap : ∀ a b : List UInt8, Lib.compareBytes b a = - Lib.compareBytes a b
  | [], [] => rfl
  | [], _ :: _ => rfl
  | _ :: _, [] => rfl
  | a :: r, b :: q => by
    simp only [Lib.compareBytes]
    by_cases h1 : a < b
    · have h2 : ¬ b < a := UInt8.not_lt.2 (UInt8.le_of_lt h1)
      simp [h1, h2]
    · by_cases h2 : b < a
      · simp [h1, h2]
      · simp only [h1, h2, if_false]; exact cmpBytes_swap r q
theorem cmpBytes_less : ∀ a b : List UInt8, Op.bytesLess a b = decide (Lib.compareBytes a b < 0)
  | [], [] => rfl
  | [], _ :: _ => rfl
  | _ :: _, [] => rfl
  | a :: r, b :: q => by
    simp only [Lib.compareBytes, Op.bytesLess]
    by_cases h1 : a < b
    · simp [h1]
    · by_cases h2 : b < a
      · have hne : ¬ a = b := fun e => by subst e; exact absurd h2 (UInt8.lt_irrefl _)
        simp [h1, h2, hne]
      · have he : a = b := UInt8.le_antisymm (UInt8.not_lt.1 h2) (UInt8.not_lt.1 h1)
        subst he
        simp [h1, cmpBytes_less r q]
theorem cmpBytes_zero : ∀ a b : List UInt8, Lib.compareBytes a b = 0 ↔ a = b
  | [], [] => by simp [Lib.compareBytes]
  | [], _ :: _ => by simp [Lib.compareBytes]
  | _ :: _, [] => by simp [Lib.compareBytes]
  | a :: r, b :: q => by
    simp only [Lib.compareBytes]
    by_cases h1 : a < b
    · have hne : ¬ a = b := fun e => by subst e; exact absurd h1 (UInt8.lt_irrefl _)
      simp [h1, hne]
    · by_cases h2 : b < a
      · have hne : ¬ a = b := fun e => by subst e; exact absurd h2 (UInt8.lt_irrefl _)
        simp [h1, h2, hne]
      · have he : a = b := UInt8.le_antisymm (UInt8.not_lt.1 h2) (UInt8.not_lt.1 h1)
        subst he
        simp [h1, cmpBytes_zero r q]
theorem cmpBytes_range : ∀ a b : List UInt8, Lib.compareBytes a b = -1 ∨ Lib.compareBytes a b = 0 ∨ Lib.compareBytes a b = 1
  | [], [] => by simp [Lib.compareBytes]
  | [], _ :: _ => by simp [Lib.compareBytes]
  | _ :: _, [] => by simp [Lib.compareBytes]
  | a :: r, b :: q => by
    simp only [Lib.compareBytes]
    by_cases h1 : a < b
    · simp [h1]
    · by_cases h2 : b < a
      · simp [h1, h2]
      · simp only [h1, h2, if_false]; exact cmpBytes_range r q

theorem bytesLess_irrefl (a : List UInt8) : Op.bytesLess a a = false := by rw [cmpBytes_less, (cmpBytes_zero a a).2 rfl]; rfl
def cmpS (a b : ByteArray) : Int := Lib.compareBytes a.data.toList b.data.toList
def cmpV (x y : V) : Int := firstNZ [cmpI x.k y.k, cmpI x.n y.n, cmpS x.s y.s]

theorem cmpV_spec (k n : Int) (s : ByteArray) (k' n' : Int) (s' : ByteArray) : cmpV ⟨k, n, s⟩ ⟨k', n', s'⟩ =
    if k < k' then -1 else if k' < k then 1 else if n < n' then -1 else if n' < n then 1 else if Op.bytesLess s.toList s'.toList = true then -1 else if s.toList = s'.toList then 0 else 1 := by
  rw [cmpBytes_less, ByteArray.toList_eq, ByteArray.toList_eq]
  unfold cmpV cmpI cmpS
  simp only [decide_eq_true_eq, firstNZ]
  by_cases h1 : k < k'
  · simp [h1]
  · by_cases h2 : k' < k
    · simp [h1, h2]
    · by_cases h3 : n < n'
      · simp [h1, h2, h3]
      · by_cases h4 : n' < n
        · simp [h1, h2, h3, h4]
        · simp only [h1, h2, h3, h4, if_false, ne_eq, not_true_eq_false, ite_self]
          rcases cmpBytes_range s.data.toList s'.data.toList with h | h | h
          · simp [h]
          · rw [(cmpBytes_zero _ _).1 h]; simp [(cmpBytes_zero s'.data.toList s'.data.toList).2 rfl]
          · have hne : ¬ s.data.toList = s'.data.toList := fun e => by rw [(cmpBytes_zero _ _).2 e] at h; cases h
            simp [h, hne]
def holdsV (r : Int) (x y : V) : Bool :=
  chk x.k x.n x.s == 0 && chk y.k y.n y.s == 0 && (if r = 1 then cmpV x y == 0 else if r = 2 then cmpV x y != 0 else if r = 3 then decide (cmpV x y < 0) else if r = 4 then decide (cmpV x y ≤ 0) else if r = 5 then decide (cmpV x y > 0) else if r = 6 then decide (cmpV x y ≥ 0) else false)

end Go.Proofs.Ytcpphabehpbmlaa
/- Lists of values: SameValues, TwinValues, LeftValues; the order of tuples, of the program and of the reference. -/
namespace Go.Proofs.Ytcpphabehpbmlaa
open Go.RowKit
set_option linter.unusedSimpArgs false
set_option linter.unusedVariables false

instance : DecidableEq V := fun x y =>
  if h : x.k = y.k ∧ x.n = y.n ∧ x.s.toList = y.s.toList then
    .isTrue (by obtain ⟨k, n, s⟩ := x; obtain ⟨k', n', s'⟩ := y; simp only at h; obtain ⟨rfl, rfl, h⟩ := h; rw [ByteArray.toList_eq, ByteArray.toList_eq] at h; rw [WideShapes.bytes_inj h])
  else .isFalse (fun e => h (by subst e; exact ⟨rfl, rfl, rfl⟩))
theorem V.eq_iff (x y : V) : x = y ↔ x.k = y.k ∧ x.n = y.n ∧ x.s.toList = y.s.toList :=
  ⟨fun e => by subst e; exact ⟨rfl, rfl, rfl⟩, fun h => by obtain ⟨k, n, s⟩ := x; obtain ⟨k', n', s'⟩ := y; simp only at h; obtain ⟨rfl, rfl, h⟩ := h; rw [ByteArray.toList_eq, ByteArray.toList_eq] at h; rw [WideShapes.bytes_inj h]⟩

/-- Two structs held against each other. -/
theorem exec_eqV {o : Oper} {a : Act} {X Y : Operand} (ho : o.op = .binOp .eql 36 X Y 36) (x y : V) (hx : a.eval X = x.val) (hy : a.eval Y = y.val) (w : World) :
    (execOp a.eval o).run Try.prog w = .ok (.value (.bool (decide (x = y)))) w := by
  obtain ⟨k, n, s⟩ := x
  obtain ⟨k', n', s'⟩ := y
  unfold execOp
  rw [ho]
  simp only [hx, hy, V.val]
  by_cases h1 : k = k'
  · by_cases h2 : n = n'
    · by_cases h3 : s.toList = s'.toList
      · have hd : decide ((⟨k, n, s⟩ : V) = ⟨k', n', s'⟩) = true := decide_eq_true ((V.eq_iff _ _).2 ⟨h1, h2, h3⟩)
        rw [hd]
        go_simp
      · have hd : decide ((⟨k, n, s⟩ : V) = ⟨k', n', s'⟩) = false := decide_eq_false fun e => h3 ((V.eq_iff _ _).1 e).2.2
        rw [hd]
        go_simp
    · have hd : decide ((⟨k, n, s⟩ : V) = ⟨k', n', s'⟩) = false := decide_eq_false fun e => h2 ((V.eq_iff _ _).1 e).2.1
      have h2' : (n == n') = false := by simpa using h2
      rw [hd]
      go_simp
  · have hd : decide ((⟨k, n, s⟩ : V) = ⟨k', n', s'⟩) = false := decide_eq_false fun e => h1 ((V.eq_iff _ _).1 e).1
    have h1' : (k == k') = false := by simpa using h1
    rw [hd]
    go_simp
theorem exec_neV {o : Oper} {a : Act} {X Y : Operand} (ho : o.op = .binOp .neq 36 X Y 36) (x y : V) (hx : a.eval X = x.val) (hy : a.eval Y = y.val) (w : World) :
    (execOp a.eval o).run Try.prog w = .ok (.value (.bool (!decide (x = y)))) w := by
  obtain ⟨k, n, s⟩ := x
  obtain ⟨k', n', s'⟩ := y
  unfold execOp
  rw [ho]
  simp only [hx, hy, V.val]
  by_cases h1 : k = k'
  · by_cases h2 : n = n'
    · by_cases h3 : s.toList = s'.toList
      · have hd : decide ((⟨k, n, s⟩ : V) = ⟨k', n', s'⟩) = true := decide_eq_true ((V.eq_iff _ _).2 ⟨h1, h2, h3⟩)
        rw [hd]
        go_simp
      · have hd : decide ((⟨k, n, s⟩ : V) = ⟨k', n', s'⟩) = false := decide_eq_false fun e => h3 ((V.eq_iff _ _).1 e).2.2
        rw [hd]
        go_simp
    · have hd : decide ((⟨k, n, s⟩ : V) = ⟨k', n', s'⟩) = false := decide_eq_false fun e => h2 ((V.eq_iff _ _).1 e).2.1
      have h2' : (n == n') = false := by simpa using h2
      rw [hd]
      go_simp
  · have hd : decide ((⟨k, n, s⟩ : V) = ⟨k', n', s'⟩) = false := decide_eq_false fun e => h1 ((V.eq_iff _ _).1 e).1
    have h1' : (k == k') = false := by simpa using h1
    rw [hd]
    go_simp

theorem Vals.at_ {w : World} {A : Option Addr} {n cap : Nat} {xs : List V} (h : Vals w (.slice A n cap) xs) {k : Nat} (hk : k < xs.length) :
    ∃ b off, A = some ⟨b, off, none⟩ ∧ (xs[k]).ok ∧ w.cell? ⟨b, off + k * 3, none⟩ = some (.int .i8 (xs[k]).k) ∧ w.cell? ⟨b, off + k * 3 + 1, none⟩ = some (.int .i64 (xs[k]).n) ∧ w.cell? ⟨b, off + k * 3 + 2, none⟩ = some (.string (xs[k]).s) := by
  obtain ⟨A', cap', hv, _, _, h3⟩ := h
  obtain ⟨b, off, cs, hA, hl, hc, hr, hok⟩ := h3 k _ (List.getElem?_eq_getElem hk)
  injection hv with hv _ _
  subst hr
  exact ⟨b, off, hv.trans hA, hok, hc 0 _ rfl, hc 1 _ rfl, hc 2 _ rfl⟩

theorem take_succ_eq {xs ys : List V} {k : Nat} (hx : k < xs.length) (hy : k < ys.length) (h : xs.take k = ys.take k) (he : xs[k] = ys[k]) : xs.take (k + 1) = ys.take (k + 1) := by
  rw [List.take_succ_eq_append_getElem hx, List.take_succ_eq_append_getElem hy, h, he]

/-! ### The order of tuples -/
def cmpT : List V → List V → Int
  | [], [] => 0
  | [], _ :: _ => -1
  | _ :: _, [] => 1
  | x :: r, y :: q => if cmpV x y ≠ 0 then cmpV x y else cmpT r q
theorem cmpT_drop : ∀ (k : Nat) (xs ys : List V), k ≤ xs.length → k ≤ ys.length → (∀ i (hi : i < k) (hx : i < xs.length) (hy : i < ys.length), cmpV xs[i] ys[i] = 0) → cmpT xs ys = cmpT (xs.drop k) (ys.drop k)
  | 0, _, _, _, _, _ => rfl
  | k + 1, [], _, h, _, _ => by simp at h
  | k + 1, _ :: _, [], _, h, _ => by simp at h
  | k + 1, x :: r, y :: q, h, h', hz => by
    have h0 : cmpV x y = 0 := hz 0 (by omega) (by simp) (by simp)
    rw [cmpT, if_neg (by rw [h0]; simp), List.drop_succ_cons, List.drop_succ_cons]
    refine cmpT_drop k r q (by simpa using h) (by simpa using h') fun i hi hx hy => ?_
    have := hz (i + 1) (by omega) (by simp; omega) (by simp; omega)
    simpa using this
theorem cmpT_step {xs ys : List V} {k : Nat} (hx : k < xs.length) (hy : k < ys.length) (hz : ∀ i (_ : i < k) (hx : i < xs.length) (hy : i < ys.length), cmpV xs[i] ys[i] = 0) (h : cmpV xs[k] ys[k] ≠ 0) : cmpT xs ys = cmpV xs[k] ys[k] := by
  rw [cmpT_drop k xs ys (by omega) (by omega) hz, List.drop_eq_getElem_cons hx, List.drop_eq_getElem_cons hy, cmpT, if_pos h]
theorem cmpT_end {xs ys : List V} {k : Nat} (hk : k = xs.length ∨ k = ys.length) (hx : k ≤ xs.length) (hy : k ≤ ys.length) (hz : ∀ i (_ : i < k) (hx : i < xs.length) (hy : i < ys.length), cmpV xs[i] ys[i] = 0) :
    cmpT xs ys = if xs.length < ys.length then -1 else if ys.length < xs.length then 1 else 0 := by
  rw [cmpT_drop k xs ys hx hy hz]
  rcases hk with rfl | rfl
  · rw [List.drop_length]
    rcases Nat.lt_or_ge xs.length ys.length with h | h
    · rw [if_pos h, List.drop_eq_getElem_cons h]; rfl
    · rw [if_neg (by omega), if_neg (by omega), List.drop_eq_nil_of_le h]; rfl
  · rw [List.drop_length]
    rcases Nat.lt_or_ge ys.length xs.length with h | h
    · rw [if_neg (by omega), if_pos h, List.drop_eq_getElem_cons h]; rfl
    · rw [if_neg (by omega), if_neg (by omega), List.drop_eq_nil_of_le h]; rfl

end Go.Proofs.Ytcpphabehpbmlaa
/- Rules: read off the form's own reading. -/
namespace Go.Proofs.Ytcpphabehpbmlaa
open Go.RowKit Go.ChangeShapes Go.WideShapes Go.ChangeAt Go.Deep
set_option linter.unusedSimpArgs false
set_option linter.unusedVariables false
set_option maxRecDepth 10000

theorem cS : Try.prog.cellsOf 9 = 1 := by kernel_rfl
theorem cVal : Try.prog.cellsOf 36 = 3 := by kernel_rfl
theorem cTm : Try.prog.cellsOf 38 = 4 := by kernel_rfl
theorem cEx : Try.prog.cellsOf 59 = 6 := by kernel_rfl
theorem cAt : Try.prog.cellsOf 54 = 2 := by kernel_rfl
theorem cLt : Try.prog.cellsOf 61 = 16 := by kernel_rfl
theorem cAr : Try.prog.cellsOf 40 = 5 := by kernel_rfl
theorem cRu : Try.prog.cellsOf 31 = 3 := by kernel_rfl
theorem cOp : Try.prog.cellsOf 56 = 1 := by kernel_rfl
theorem cLk : Try.prog.cellsOf 51 = 1 := by kernel_rfl
theorem cRl : Try.prog.cellsOf 55 = 1 := by kernel_rfl
theorem cAg : Try.prog.cellsOf 33 = 1 := by kernel_rfl
theorem cEs : Try.prog.cellsOf 57 = 1 := by kernel_rfl
theorem cTs : Try.prog.cellsOf 52 = 1 := by kernel_rfl
theorem cAs : Try.prog.cellsOf 28 = 1 := by kernel_rfl
theorem cLs : Try.prog.cellsOf 29 = 1 := by kernel_rfl
theorem bEx : Try.prog.bytesOf 59 = 80 := by kernel_rfl
theorem bTm : Try.prog.bytesOf 38 = 48 := by kernel_rfl
theorem bLt : Try.prog.bytesOf 61 = 216 := by kernel_rfl
theorem bAr : Try.prog.bytesOf 40 = 56 := by kernel_rfl
theorem bRu : Try.prog.bytesOf 31 = 64 := by kernel_rfl
theorem field_at {α : Type} {P : Program} {f : Field} {R : World → List Value → α → Prop} {H : Type} {enc : TypeId × Value → H} {w : World} {base : Nat} {held : Bool} {t ty : TypeId} {fs : Array Field} {fuel o n : Nat} {cs : List Value} {x : DataW H × List MemPlace}
    (hs : P.underlying t = some (.struct fs)) (h : DataW.trod enc P w base (fun _ => true) held fuel t cs = some x) (hn : ∀ n ∈ x.1.weights P t, n ≤ reachBytes) (i : Nat) (hi : fs[i]? = some f) (ho : f.offset = o) (hty : f.type = ty) (hc : P.cellsOf ty = n) (hR : Reads P ty R) :
    ∃ d, R w ((cs.drop o).take n) d := by
  subst ho; subst hty; subst hc
  exact reads_field hs h hn i hi hR
theorem fieldD_at {α : Type} {P : Program} {f : Field} {R : World → List Value → α → Prop} {H : Type} {enc : TypeId × Value → H} {w : World} {base : Nat} {held : Bool} {t ty : TypeId} {fs : Array Field} {fuel o n : Nat} {cs : List Value} {x : DataW H × List MemPlace}
    (hs : P.underlying t = some (.struct fs)) (h : DataW.trod enc P w base (fun _ => true) held fuel t cs = some x) (hn : ∀ n ∈ x.1.weights P t, n ≤ reachBytes) (i : Nat) (hi : fs[i]? = some f) (ho : f.offset = o) (hty : f.type = ty) (hc : P.cellsOf ty = n) {k : Nat} (hk : SizeOf.sizeOf x.1 < k + 1) (hR : ReadsD k P ty R) :
    ∃ d, R w ((cs.drop o).take n) d := by
  subst ho; subst hty; subst hc
  exact readsD_field hs h hn i hi hk hR
theorem rTm : Reads Try.prog 38 RTm := by
  intro H enc w base held fuel cs x h hn
  have hs := Try.underlying38
  have hl := (reads_len hs h).trans cTm
  obtain ⟨s, e0, w0⟩ := field_at (o := 0) hs h hn 0 rfl rfl rfl cS (reads_string Try.underlying9)
  obtain ⟨v, e1, w1⟩ := field_at (o := 1) hs h hn 1 rfl rfl rfl cVal rV
  match cs, hl with
  | [a, b, c, d], _ =>
    simp [V.cells] at e0 e1
    exact ⟨⟨s, v⟩, by rw [e0, e1.1, e1.2.1, e1.2.2]; rfl, w0, w1⟩
theorem rExD : ∀ k, ReadsD k Try.prog 59 (RE k)
  | 0 => fun H enc w base held fuel cs x h hn hz => absurd hz (Nat.not_lt_zero _)
  | k + 1 => by
    intro H enc w base held fuel cs x h hn hz
    have hs := Try.underlying59
    have hl := (reads_len hs h).trans cEx
    obtain ⟨op, e0, w0⟩ := field_at (o := 0) hs h hn 0 rfl rfl rfl cOp (reads_int Try.underlying56)
    obtain ⟨t, e1, w1⟩ := field_at (o := 1) hs h hn 1 rfl rfl rfl cTm rTm
    obtain ⟨kids, kv, e2, w2⟩ := fieldD_at (o := 5) hs h hn 2 rfl rfl rfl cEs hz (readsD_slice (M := 1759218604441) Try.underlying57 cEx (by omega) (fun c hc => by rw [bEx] at hc; unfold reachBytes at hc; omega) (rExD k))
    match cs, hl with
    | [a, b, c, d, e, f], _ =>
      simp [Tm.cells] at e0 e1 e2
      exact ⟨.mk op t kids, kv, by rw [e0, e1.1, e1.2.1, e1.2.2.1, e1.2.2.2, e2], w0, w1, w2⟩
theorem rEx : Reads Try.prog 59 RX := reads_ofD rExD
theorem rLt : Reads Try.prog 61 RLt := by
  intro H enc w base held fuel cs x h hn
  have hs := Try.underlying61
  have hl := (reads_len hs h).trans cLt
  have rAt : Reads Try.prog 54 (fun w cs (d : ByteArray × List Tm) => ∃ av, cs = [.string d.1, av] ∧ d.1.size ≤ 140737488351232 ∧ SlRep 4 2932031007402 RTm w av d.2) := by
    intro H enc w base held fuel cs x h hn
    have hs := Try.underlying54
    have hl := (reads_len hs h).trans cAt
    obtain ⟨s, e0, w0⟩ := field_at (o := 0) hs h hn 0 rfl rfl rfl cS (reads_string Try.underlying9)
    obtain ⟨ts, v, e1, w1⟩ := field_at (o := 1) hs h hn 1 rfl rfl rfl cTs (reads_slice (M := 2932031007402) Try.underlying52 cTm (by omega) (fun c hc => by rw [bTm] at hc; unfold reachBytes at hc; omega) rTm)
    match cs, hl with
    | [a, b], _ =>
      simp at e0 e1
      exact ⟨(s, ts), v, by rw [e0, e1], w0, w1⟩
  obtain ⟨k, e0, w0⟩ := field_at (o := 0) hs h hn 0 rfl rfl rfl cLk (reads_int Try.underlying51)
  obtain ⟨⟨p, ts⟩, av, e1, w1, w1'⟩ := field_at (o := 1) hs h hn 1 rfl rfl rfl cAt rAt
  obtain ⟨r, e2, w2⟩ := field_at (o := 3) hs h hn 2 rfl rfl rfl cRl (reads_int Try.underlying55)
  obtain ⟨l, w3⟩ := field_at (o := 4) hs h hn 3 rfl rfl rfl cEx rEx
  obtain ⟨d, w4⟩ := field_at (o := 10) hs h hn 4 rfl rfl rfl cEx rEx
  match cs, hl with
  | [a0, a1, a2, a3, a4, a5, a6, a7, a8, a9, b0, b1, b2, b3, b4, b5], _ =>
    simp at e0 e1 e2 w3 w4
    exact ⟨⟨k, p, ts, r, l, d⟩, av, [a4, a5, a6, a7, a8, a9], [b0, b1, b2, b3, b4, b5], by rw [e0, e1.1, e1.2, e2]; rfl, rfl, rfl, w0, w2, w1, w1', w3, w4⟩
theorem rAr : Reads Try.prog 40 RAr := by
  intro H enc w base held fuel cs x h hn
  have hs := Try.underlying40
  have hl := (reads_len hs h).trans cAr
  obtain ⟨g, e0, w0⟩ := field_at (o := 0) hs h hn 0 rfl rfl rfl cAg (reads_int Try.underlying33)
  obtain ⟨t, e1, w1⟩ := field_at (o := 1) hs h hn 1 rfl rfl rfl cTm rTm
  match cs, hl with
  | [a, b, c, d, e], _ =>
    simp [Tm.cells] at e0 e1
    exact ⟨⟨g, t⟩, by rw [e0, e1.1, e1.2.1, e1.2.2.1, e1.2.2.2]; rfl, w0, w1⟩
theorem rRu : Reads Try.prog 31 RRu := by
  intro H enc w base held fuel cs x h hn
  have hs := Try.underlying31
  have hl := (reads_len hs h).trans cRu
  obtain ⟨p, e0, w0⟩ := field_at (o := 0) hs h hn 0 rfl rfl rfl cS (reads_string Try.underlying9)
  obtain ⟨hd, hv, e1, w1⟩ := field_at (o := 1) hs h hn 1 rfl rfl rfl cAs (reads_slice (M := 2513169434916) Try.underlying28 cAr (by omega) (fun c hc => by rw [bAr] at hc; unfold reachBytes at hc; omega) rAr)
  obtain ⟨bd, bv, e2, w2⟩ := field_at (o := 2) hs h hn 2 rfl rfl rfl cLs (reads_slice (M := 651562446089) Try.underlying29 cLt (by omega) (fun c hc => by rw [bLt] at hc; unfold reachBytes at hc; omega) rLt)
  match cs, hl with
  | [a, b, c], _ =>
    simp at e0 e1 e2
    exact ⟨⟨p, hd, bd⟩, hv, bv, by rw [e0, e1, e2], w0, w1, w2⟩
theorem rRus : Reads Try.prog 22 (SlR 3 2199023255552 RRu) :=
  reads_slice Try.underlying22 cRu (by omega) (fun c hc => by rw [bRu] at hc; unfold reachBytes at hc; omega) rRu
end Go.Proofs.Ytcpphabehpbmlaa
