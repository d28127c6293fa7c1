/- How rows, turns, lists of them are read off the arguments; RelationSplits. -/
import Derived.Test.YtcekphjcmippoaaRelS
import Derived.Test.YtcekphjcmippoaaRows
import Derived.Deep.CondSized
import Derived.JoinedCond
namespace Go.Proofs.Ytcekphjcmippoaa
open Go.RowKit Go.WideMaps Go.ChangeShapes Go.WideShapes Go.ChangeAt Go.Deep
set_option linter.unusedSimpArgs false
set_option linter.unusedVariables false

theorem mapM_each {α : Type} {f : Nat → Option α} : ∀ (L : List Nat) (ys : List α), L.mapM f = some ys → ∀ i ∈ L, ∃ y, f i = some y
  | [], _, _, i, hi => by cases hi
  | j :: L, ys, h, i, hi => by
    rw [List.mapM_cons] at h
    simp only [bind, Option.bind_eq_some_iff, pure, Option.some.injEq] at h
    obtain ⟨y, hy, zs, hz, rfl⟩ := h
    rcases List.mem_cons.1 hi with rfl | hi
    · exact ⟨y, hy⟩
    · exact mapM_each L zs hz i hi
theorem reads_row {P : Program} {k e : TypeId} (T : RowTy P k e) : Reads P k RR := by
  intro H enc w base held fuel cs x h hn
  cases fuel with
  | zero => simp [DataW.trod] at h
  | succ m =>
    rw [DataW.trod_step] at h
    unfold DataW.trodStep at h
    simp only [T.A.hu] at h
    by_cases hl : cs.length = P.cellsOf k
    · rw [if_pos hl] at h
      simp only [Option.map_eq_some_iff] at h
      obtain ⟨ys, hy, _⟩ := h
      have hl24 : cs.length = 24 := hl.trans T.A.size
      obtain ⟨r, hrl, hr⟩ := exists_list (p := fun i (a : Int) => cs[i]? = some (.int .i32 a) ∧ (Lit.int .i32 a).wf = true) 24 fun i hi => by
        obtain ⟨y, hy'⟩ := mapM_each _ _ hy i (List.mem_range.2 hi)
        rw [T.A.one, Nat.mul_one] at hy'
        obtain ⟨a, ea, _, wa⟩ := DataW.trod_int T.he hy'
        refine ⟨a, ?_, wa⟩
        have h1 : (List.take 1 (List.drop i cs))[0]? = some (.int .i32 a) := by rw [ea]; rfl
        simpa using h1
      refine ⟨r, ?_, hrl, fun a ha => ?_⟩
      · refine List.ext_getElem? fun i => ?_
        unfold Rw.cells
        rw [List.getElem?_map]
        by_cases hi : i < 24
        · rw [(hr i r[i] (List.getElem?_eq_getElem (by omega))).1, List.getElem?_eq_getElem (by omega)]; rfl
        · rw [List.getElem?_eq_none (by omega), List.getElem?_eq_none (by omega)]; rfl
      · obtain ⟨i, hi⟩ := List.getElem?_of_mem ha
        exact (hr i a hi).2
    · rw [if_neg hl] at h; cases h
theorem reads_bool {P : Program} {t : TypeId} (ht : P.underlying t = some .bool) : Reads P t (fun _ cs (b : Bool) => cs = [.bool b]) := by
  intro H enc w base held fuel cs x h _
  obtain ⟨s, h1, _⟩ := DataW.trod_bool ht h
  exact ⟨s, h1⟩
end Go.Proofs.Ytcekphjcmippoaa
