/- Two named sets of equations. -/
import Derived.Lib.Hide
import Derived.StillTail
import Derived.Tactics
import Derived.Below
namespace Go.Proofs.YtobabnpllokkaaaGreatDoor
open Go.RowKit
theorem actS : (∀ (a : Act) (v : Value) (d : Tmp), a.put (some d) v = { tmps := a.tmps.setIfInBounds d v, defers := a.defers }) ∧ (∀ (a : Act) (v : Value), a.put none v = a) ∧ (∀ {α : Type} (l : List α) (i : Nat) (a : α), l.toArray.setIfInBounds i a = (l.set i a).toArray) ∧ (∀ {α : Type} (x : α) (xs : List α) (i : Nat) (a : α), (x :: xs).set (i + 1) a = x :: xs.set i a) ∧ (∀ {α : Type} (x : α) (xs : List α) (a : α), (x :: xs).set 0 a = a :: xs) ∧ (∀ {α : Type} (l : List α), [] ++ l = l) ∧ (∀ {α : Type} (a : α) (l m : List α), a :: l ++ m = a :: (l ++ m)) :=
  ⟨fun _ _ _ => rfl, fun _ _ => rfl, fun _ _ _ => List.setIfInBounds_toArray .., fun _ _ _ _ => rfl, fun _ _ _ => rfl, fun _ => rfl, fun _ _ _ => rfl⟩
theorem takS : (∀ {α : Type} {n : Nat} {a : α} {l : List α}, (a :: l).take (n + 1) = a :: l.take n) ∧ (∀ {α : Type} {l : List α}, l.take 0 = []) ∧ (∀ {α : Type} {n : Nat} {a : α} {l : List α}, (a :: l).drop (n + 1) = l.drop n) ∧ (∀ {α : Type} {l : List α}, l.drop 0 = l) :=
  ⟨List.take_succ_cons, List.take_zero, List.drop_succ_cons, List.drop_zero⟩
theorem Hh {p : Prop} (h : p) : Go.RowKit.Hid p := Lib.hid h
end Go.Proofs.YtobabnpllokkaaaGreatDoor
