/- Rows read, written, appended within a fence that lets everything in (an iterator's own body; a round). No program. -/
import Derived.Test.YtcekphjcmippoaaRowW
import Derived.Test.YtcekphjcmippoaaFill
import Derived.Test.YtcekphjcmippoaaOwnAt
import Derived.OwnWalkIn
import Derived.TacticsInMore
namespace Go.Proofs.Ytcekphjcmippoaa
open Go.RowKit Go.WideMaps
set_option linter.unusedSimpArgs false
set_option linter.unusedVariables false

section
variable {F : Fence} {n : Nat} {P : Program} {k e : TypeId} {w : World} {b off : Nat} {r : Rw} {o : Oper} {a : Act} {ops : Array Oper} {rest : List Oper} {Q : Exit → Act → World → Prop}
theorem semAt_plain (hnd : ∀ c, o.op ≠ .defer c) (ro : Option Nat) (ρ : Operand → Value) : Oper.semAt ro ρ o = execOp ρ o := by
  cases ro with
  | none => rfl
  | some l => exact Oper.semAt_some l ρ o hnd
theorem wpListIn_of_run (hF : ∀ f, F.fn f) {v : Value} {w' : World} (hnd : ∀ c, o.op ≠ .defer c) (hgd : Region.wanted o (yielded ops a.tmps) = true)
    (hrun : (execOp a.eval o).run P w = .ok (.value v) w') (h : wpListIn F n P ops Q rest (a.put o.dst v) w') : wpListIn F n P ops Q (o :: rest) a w := by
  refine wpListIn_step fun K hK => ?_
  rw [if_pos hgd]
  unfold Oper.wpIn
  refine ⟨fun f _ => hF f, ?_⟩
  rw [semAt_plain hnd, hrun]
  exact hK _ _ h
theorem wpListIn_of_skip (hF : ∀ f, F.fn f) {w' : World} (hnd : ∀ c, o.op ≠ .defer c) (hgd : Region.wanted o (yielded ops a.tmps) = true)
    (hrun : (execOp a.eval o).run P w = .ok .skip w') (h : wpListIn F n P ops Q rest (a.put o.dst undef) w') : wpListIn F n P ops Q (o :: rest) a w := by
  refine wpListIn_step fun K hK => ?_
  rw [if_pos hgd]
  unfold Oper.wpIn
  refine ⟨fun f _ => hF f, ?_⟩
  rw [semAt_plain hnd, hrun]
  exact hK _ _ h
theorem wpListIn_load_R (hF : ∀ f, F.fn f) (T : RowTy P k e) (hgd : Region.wanted o (yielded ops a.tmps) = true) (x : Operand) (ho : o.op = .load k x) (hx : a.eval x = .pointer (some ⟨b, off, none⟩)) (hr : RowAt w b off r)
    (h : wpListIn F n P ops Q rest (a.put o.dst (Rw.val r)) w) : wpListIn F n P ops Q (o :: rest) a w :=
  wpListIn_of_run hF (fun c h => by rw [ho] at h; cases h) hgd (exec_load_R T x ho hx hr) h
theorem wpListIn_store_new (hF : ∀ f, F.fn f) (T : RowTy P k e) (hgd : Region.wanted o (yielded ops a.tmps) = true) {t : TypeId} {arr : Array Value} (x y : Operand) (ho : o.op = .store k x y) (hx : a.eval x = .pointer (some ⟨w.heap.size, 0, none⟩)) (hy : a.eval y = Rw.val r) (hs : arr.size = 24) (hr : Rw.ok r)
    (h : wpListIn F n P ops Q rest (a.put o.dst undef) (w.alloc (.cells (Rw.cells r).toArray t))) : wpListIn F n P ops Q (o :: rest) a (w.alloc (.cells arr t)) := by
  refine wpListIn_of_skip hF (fun c h => by rw [ho] at h; cases h) hgd (exec_store_R T x y ho hx hy (heap_alloc_new w _) hs hr) ?_
  rw [putObj_alloc]; exact h
end
theorem wide_fn : ∀ f, Fence.wide.fn f := fun _ => trivial
theorem round_fn (l : Nat) : ∀ f, (Fence.wide.inRound l).fn f := fun _ => trivial
end Go.Proofs.Ytcekphjcmippoaa
