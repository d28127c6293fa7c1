/- slices.SortFunc at this program: tuples, facts. -/
import Derived.Test.YtlihkmldclocoaaDoorSortG
import Derived.Test.YtlihkmldclocoaaDoorCmpGr
import Derived.Test.YtlihkmldclocoaaDoorOrd
import Derived.Test.YtlihkmldclocoaaDoorSortLay
import Derived.Shelf.SlSortCmp.NoneTotal
namespace Go.Proofs.YtlihkmldclocoaaDoor
open Go.RowKit
set_option linter.unusedSimpArgs false
set_option linter.unusedVariables false

theorem ord_tot {α : Type} {c : α → α → Int} (h : Ord3 c) : TotC c := ⟨h.zero, h.swap, fun x y z h1 h2 => h.lt h1 (by omega)⟩
theorem sortT_any (w w1 : World) (hw : Fut w w1) (t : Value) (ts : List (List V)) (h : OwnL 1 w.heap.size 24 (fun _ => RT w) w1 t ts) (hlen : ts.length < 4611686018427387904) :
    Calls Tryd.prog 60 #[t, .func (.func 61) #[] #[]] w1 fun x w2 => x = .returned (.tuple #[]) ∧ ∃ ts' : List (List V), ts'.Perm ts ∧ Sorted cmpT ts' ∧ Tups w2 t ts' ∧ Fut w w2 := by
  by_cases hne : ts = []
  · subst hne
    have hr := h.rep
    obtain ⟨A, cap, rfl, hcl, hcm⟩ := hr.form
    have hn := AnyF.slices_SortFunc_none (P := Tryd.prog) { Tryd.sortT with } A cap (.func (.func 61) #[] #[]) w1
    change Calls Tryd.prog 60 _ _ _ at hn
    refine hn.mono ?_
    rintro x w2 ⟨rfl, rfl⟩
    refine ⟨rfl, [], List.Perm.refl _, List.Pairwise.nil, ⟨A, cap, rfl, Nat.zero_le _, by simp only [List.length_nil] at hcl; unfold maxLen at hcm; omega, fun i x hx => by simp at hx⟩, hw⟩
  · have eg : ∀ args w, (callFunc 61 args).run Tryd.prog w = .ok (.enter 61 args) w := enters_of Tryd.func61 (by kernel_rfl) rfl
    have hn := sort_tups Tryd.sortT 61 eg cmpT (ord_tot ordT) (fun a b xs ys W ha hb => Gr.cmpT_gr a b xs ys W ha hb) w w1 hw t ts h hne hlen
    change Calls Tryd.prog 60 _ _ _ at hn
    exact hn
theorem sortF_any (w w1 : World) (hw : Fut w w1) (t : Value) (ts : List (Fc)) (h : OwnL 2 w.heap.size 54 (fun _ => RG w) w1 t ts) (hlen : ts.length < 4611686018427387904) :
    Calls Tryd.prog 66 #[t, .func (.func 30) #[] #[]] w1 fun x w2 => x = .returned (.tuple #[]) ∧ ∃ ts' : List (Fc), ts'.Perm ts ∧ Sorted cmpF ts' ∧ FacsG w2 t ts' ∧ Fut w w2 := by
  by_cases hne : ts = []
  · subst hne
    have hr := h.rep
    obtain ⟨A, cap, rfl, hcl, hcm⟩ := hr.form
    have hn := AnyF.slices_SortFunc_none (P := Tryd.prog) { Tryd.sortF with } A cap (.func (.func 30) #[] #[]) w1
    change Calls Tryd.prog 66 _ _ _ at hn
    refine hn.mono ?_
    rintro x w2 ⟨rfl, rfl⟩
    refine ⟨rfl, [], List.Perm.refl _, List.Pairwise.nil, ⟨A, cap, rfl, Nat.zero_le _, by simp only [List.length_nil] at hcl; unfold maxLen at hcm; omega, fun i x hx => by simp at hx⟩, hw⟩
  · have eg : ∀ args w, (callFunc 30 args).run Tryd.prog w = .ok (.enter 30 args) w := enters_of Tryd.func30 (by kernel_rfl) rfl
    have hn := sort_facs Tryd.sortF Tryd.isAgg54 Tryd.sizeOf54 30 eg cmpF (ord_tot ordF) (fun a b xs ys W ha hb => Gr.cmpF_gr xs ys a b W ha hb) w w1 hw t ts h hne hlen
    change Calls Tryd.prog 66 _ _ _ at hn
    exact hn
end Go.Proofs.YtlihkmldclocoaaDoor
