/- Sorted. -/
import Derived.Test.YtcekphjcmippoaaSortR
import Derived.Test.YtcekphjcmippoaaSortLayR
import Derived.Test.YtcekphjcmippoaaRelY
import Derived.Shelf.SlSortCmp.NoneTotal
namespace Go.Proofs.Ytcekphjcmippoaa
open Go.RowKit Go.WideMaps Go.Shelf
set_option linter.unusedSimpArgs false
set_option linter.unusedVariables false

theorem sortR_any (w w1 : World) (hw : Fut w w1) (t : Value) (ts : List Rw) (h : OwnL 24 w.heap.size 32 RR w1 t ts) (hlen : ts.length < 4611686018427387904) :
    Calls Try.prog 59 #[t, .func (.func 39) #[] #[]] w1 fun x w2 => x = .returned (.tuple #[]) ∧ ∃ ts' : List Rw, ts'.Perm ts ∧ Sorted cmpR ts' ∧ SlRep 24 maxLen RR w2 t ts' ∧ Fut w w2 := by
  by_cases hne : ts = []
  · subst hne
    have hr := h.rep
    obtain ⟨A, cap, rfl, hcl, hcm⟩ := hr.form
    have hn := AnyF.slices_SortFunc_none (P := Try.prog) { Try.sortR with } A cap (.func (.func 39) #[] #[]) w1
    change Calls Try.prog 59 _ _ _ at hn
    refine hn.mono ?_
    rintro x w2 ⟨rfl, rfl⟩
    exact ⟨rfl, [], List.Perm.refl _, List.Pairwise.nil, hr, hw⟩
  · have eg : ∀ args w, (callFunc 39 args).run Try.prog w = .ok (.enter 39 args) w := enters_of Try.func39 (by kernel_rfl) rfl
    have hn := sort_rows Try.sortR Try.isAgg32 Try.sizeOf32 39 eg (fun x y W hx hy => Gr.sorted1_gr x y W hx hy) w w1 hw t ts h hne hlen
    change Calls Try.prog 59 _ _ _ at hn
    exact hn
set_option maxHeartbeats 400000 in
theorem collect_any {D : World → Prop} {w : World} {lb : Array Value} {xs : List Rw} (hl : xs.length ≤ 1407374883512) (hok : ∀ x ∈ xs, Rw.ok x)
    (hit : ∀ W, Fut w W → IterIf D Try.prog 60 lb xs.length (fun k => #[Rw.val (xs.getD k zeroRow)]) W) (hD : ∀ W, Fut w W → D W) :
    Calls Try.prog 58 #[.func (.func 60) #[] lb] w fun e w' => ∃ v, e = .returned v ∧ OwnL 24 w.heap.size 32 RR w' v xs ∧ Fut w w' := by
  have HA := Lib.hid (appendSeq_any hl hok hit hD)
  clear hl hok hit hD
  go_enter Try.func58, Try.ntmps58
  go_wp2_with fail
  refine HA.out.mono ?_
  rintro e w1 ⟨v, rfl, hO, f1⟩
  go_wp2
  go_ret
  exact ⟨v, rfl, hO, f1⟩
set_option maxHeartbeats 400000 in
theorem sortedFunc_any {D : World → Prop} {w : World} {lb : Array Value} {xs : List Rw} (hl : xs.length ≤ 1407374883512) (hok : ∀ x ∈ xs, Rw.ok x)
    (hit : ∀ W, Fut w W → IterIf D Try.prog 60 lb xs.length (fun k => #[Rw.val (xs.getD k zeroRow)]) W) (hD : ∀ W, Fut w W → D W) :
    Calls Try.prog 37 #[.func (.func 60) #[] lb, .func (.func 39) #[] #[]] w fun e w' => ∃ v ys, e = .returned v ∧ ys.Perm xs ∧ Sorted cmpR ys ∧ SlRep 24 maxLen RR w' v ys ∧ Fut w w' := by
  have HA := Lib.hid (collect_any hl hok hit hD)
  clear hok hit hD
  go_enter Try.func37, Try.ntmps37
  go_wp2_with fail
  refine HA.out.mono ?_
  rintro e w1 ⟨v, rfl, hO, f1⟩
  go_wp2_with fail
  refine (sortR_any w w1 f1 v xs hO (by omega)).mono ?_
  rintro e w2 ⟨rfl, ys, hp, hs, hr, f2⟩
  go_wp2
  go_ret
  exact ⟨v, ys, rfl, hp, hs, hr, f2⟩
set_option maxHeartbeats 800000 in
set_option maxRecDepth 100000 in
theorem sorted_any {B : Nat} {w : World} {b pb mb : Nat} {lv : Value} {ar gone : Nat} {xs : List Rw} (h : RelI B w b pb mb lv ar gone xs) (hl : xs.length ≤ 1407374883512) :
    Calls Try.prog 21 #[.pointer (some ⟨b, 0, none⟩)] w fun e w' => ∃ v ys, e = .returned v ∧ ys.Perm xs ∧ Sorted cmpR ys ∧ SlRep 24 maxLen RR w' v ys ∧ Fut w w' := by
  have H := Lib.hid h
  have c2 := cell_at h.blk 2 _ rfl
  have p0 := cell_at h.pl.blk 0 _ rfl
  have hR := Lib.hid h.pl.list.rep
  have hok := rows_ok h.pl.list.rep
  obtain ⟨A, cap, rfl, hcl, hcm⟩ := h.pl.form
  clear h
  go_enter Try.func21, Try.ntmps21
  go_wp2_with fail
  refine (there_any H.out).mono ?_
  rintro e w1 ⟨rfl, hw1⟩
  have hw1' := hw1.symm
  subst hw1'
  go_wp2_with fail
  refine (values_any _ _ ⟨_, _, _, rfl⟩).mono ?_
  rintro e w2 ⟨b2, rfl, hc2, f2⟩
  go_wp2_with fail
  refine (sortedFunc_any (D := fun W => SlRep 24 maxLen RR W (.slice A xs.length cap) xs) hl hok (fun W hW => values_iter (by unfold maxLen; omega) b2 (hR.out.fut RR.stays (f2.trans hW)) (hW.cell hc2)) (fun W hW => hR.out.fut RR.stays (f2.trans hW))).mono ?_
  rintro e w3 ⟨v, ys, rfl, hp, hs, hr, f3⟩
  go_wp2
  go_ret
  exact ⟨v, ys, rfl, hp, hs, hr, f2.trans f3⟩
end Go.Proofs.Ytcekphjcmippoaa
