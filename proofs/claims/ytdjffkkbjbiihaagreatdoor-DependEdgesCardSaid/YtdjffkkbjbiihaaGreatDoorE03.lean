/- Parts. -/
import Derived.Shelf.Small.Bits
import Derived.Shelf.Strconv.Itoa0
import Derived.Shelf.Strconv.Itoa1
import Derived.Shelf.LaysM
import Derived.Shelf.Strconv.Itoa2
import Derived.Shelf.Strconv.Itoa3
import Derived.Shelf.Sort.Plain
import Derived.Shelf.Slices.Turned
import Derived.Shelf.Slices.In.SortNone
import Derived.Test.YtdjffkkbjbiihaaGreatDoorProg
import Derived.Test.YtdjffkkbjbiihaaGreatDoorRows
import Derived.WalkKit
import Derived.WalkSpells
import Derived.WalkLawsBesides
import Derived.ProofKit
import Derived.Lib.Hide
import Derived.Deep.RegionWith
import Derived.Lib.Bytealg
import Derived.Deep.QuietTactic
import Derived.BigQuiet
import Derived.Laws.RangeAny
import Derived.Lib.AppendStr
import Derived.Laws.CopyRow
import Derived.Laws.IdiomStrings
import Derived.OneCell
import Derived.Lib.ItoaNum
import Derived.Lib.Builder
import Derived.Lib.AppendIntMem
import Derived.Lib.LaidTab
import Derived.Lib.LaidU8
import Derived.Lay
import Derived.Lib.ParseIntB
import Derived.Lib.ParseIntBTie
import Derived.Laws.Pointers
import Derived.Test.YtdjffkkbjbiihaaGreatDoorE02
set_option linter.unusedSimpArgs false
set_option linter.unusedVariables false
namespace Go.Proofs.YtdjffkkbjbiihaaGreatDoor
open Go.RowKit
def cmpI (a b : Int) : Int := if a < b then -1 else if b < a then 1 else 0
structure Ord3 {α : Type} (c : α → α → Int) : Prop where
 rng : ∀ x y, c x y = -1 ∨ c x y = 0 ∨ c x y = 1
 swap : ∀ x y, c y x = - c x y
 zero : ∀ x y, c x y = 0 ↔ x = y
 tr : ∀ x y z, c x y ≤ 0 → c y z ≤ 0 → c x z ≤ 0
theorem Ord3.refl {α : Type} {c : α → α → Int} (h : Ord3 c) (x : α) : c x x = 0 := (h.zero x x).2 rfl
theorem Ord3.lt {α : Type} {c : α → α → Int} (h : Ord3 c) {x y z : α} (h1 : c x y < 0) (h2 : c y z ≤ 0) : c x z < 0 := by
 have h3 := h.tr x y z (by omega) h2
 rcases Int.lt_or_eq_of_le h3 with h4 | h4
 ·exact h4
 ·have e := (h.zero x z).1 h4
  subst e
  have := h.swap x y
  omega
theorem Ord3.lt' {α : Type} {c : α → α → Int} (h : Ord3 c) {x y z : α} (h1 : c x y ≤ 0) (h2 : c y z < 0) : c x z < 0 := by
 have h3 := h.tr x y z h1 (by omega)
 rcases Int.lt_or_eq_of_le h3 with h4 | h4
 ·exact h4
 ·have e := (h.zero x z).1 h4
  subst e
  have := h.swap x y
  omega
theorem ordI : Ord3 cmpI := by
 constructor
 ·intro x y; unfold cmpI; (repeat' split) <;> simp
 ·intro x y; unfold cmpI; (repeat' split) <;> omega
 ·intro x y; unfold cmpI; (repeat' split) <;> omega
 ·intro x y z; unfold cmpI; (repeat' split) <;> omega
def lcmp {α : Type} (c : α → α → Int) : List α → List α → Int
 | [], [] => 0
 | [], _ :: _ => -1
 | _ :: _, [] => 1
 | x :: r, y :: q => if c x y ≠ 0 then c x y else lcmp c r q
section
variable {α : Type} {c : α → α → Int} (h : Ord3 c)
include h
theorem lcmp_rng : ∀ x y : List α, lcmp c x y = -1 ∨ lcmp c x y = 0 ∨ lcmp c x y = 1
 | [], [] => by simp [lcmp]
 | [], _ :: _ => by simp [lcmp]
 | _ :: _, [] => by simp [lcmp]
 | x :: r, y :: q => by
  simp only [lcmp]
  split
  ·exact h.rng _ _
  ·exact lcmp_rng r q
theorem lcmp_swap : ∀ x y : List α, lcmp c y x = - lcmp c x y
 | [], [] => rfl
 | [], _ :: _ => rfl
 | _ :: _, [] => rfl
 | x :: r, y :: q => by
  simp only [lcmp]
  rw [h.swap x y, lcmp_swap r q]
  by_cases a : c x y = 0 <;> simp [a]
theorem lcmp_zero : ∀ x y : List α, lcmp c x y = 0 ↔ x = y
 | [], [] => by simp [lcmp]
 | [], _ :: _ => by simp [lcmp]
 | _ :: _, [] => by simp [lcmp]
 | x :: r, y :: q => by
  simp only [lcmp]
  by_cases a : c x y = 0
  ·simp only [a, ne_eq, not_true_eq_false, if_false, lcmp_zero r q, List.cons.injEq]
   exact ⟨fun e => ⟨(h.zero _ _).1 a, e⟩, fun e => e.2⟩
  ·simp only [ne_eq, a, not_false_eq_true, if_true, List.cons.injEq]
   exact ⟨fun e => e.elim, fun e => absurd ((h.zero _ _).2 e.1) a⟩
theorem lcmp_tr : ∀ x y z : List α, lcmp c x y ≤ 0 → lcmp c y z ≤ 0 → lcmp c x z ≤ 0
 | [], _, [], _, _ => by simp [lcmp]
 | [], _, _ :: _, _, _ => by simp [lcmp]
 | _ :: _, [], _, h1, _ => by simp [lcmp] at h1
 | _ :: _, _ :: _, [], _, h2 => by simp [lcmp] at h2
 | x :: r, y :: q, z :: s, h1, h2 => by
  simp only [lcmp] at h1 h2 ⊢
  by_cases a : c x y = 0
  ·by_cases b : c y z = 0
   ·have e1 := (h.zero _ _).1 a
    rw [e1, b]
    simp only [ne_eq, not_true_eq_false, if_false]
    rw [if_neg (by simpa using a)] at h1
    rw [if_neg (by simpa using b)] at h2
    exact lcmp_tr r q s h1 h2
   ·rw [if_pos b] at h2
    have := h.lt' (x := x) (y := y) (z := z) (by omega) (by omega)
    rw [if_pos (by omega)]
    omega
  ·rw [if_pos a] at h1
   have hb : c y z ≤ 0 := by
    by_cases b : c y z = 0
    ·omega
    ·rwa [if_pos b] at h2
   have := h.lt (x := x) (y := y) (z := z) (by omega) hb
   rw [if_pos (by omega)]
   omega
theorem lcmp_ord : Ord3 (lcmp c) := ⟨lcmp_rng h, lcmp_swap h, lcmp_zero h, lcmp_tr h⟩
end
end Go.Proofs.YtdjffkkbjbiihaaGreatDoor
namespace Go.Proofs
open Go.Shelf
def Tryz.laysM171_ren : Go.Shelf.Ren := ⟨fun | 171 => 191 | 243 => 247 | 246 => 265 | 283 => 291 | 284 => 292 | 285 => 293 | 286 => 294 | 129 => 276 | 317 => 312 | 318 => 313 | 319 => 314 | 320 => 315 | 337 => 326 | 338 => 327 | n => n, fun | 3 => 3 | 9 => 9 | 2 => 2 | 4 => 4 | 171 => 403 | 0 => 0 | 53 => 392 | 37 => 405 | 5 => 5 | 173 => 406 | 212 => 418 | 51 => 247 | 20 => 20 | 213 => 419 | 46 => 365 | 232 => 430 | 233 => 431 | n => n, fun | 17 => 0 | 18 => 1 | 19 => 2 | n => n⟩
theorem Tryz.laysM171 : Go.Proofs.LaysM.n171 Tryz.prog Tryz.laysM171_ren := {
 mixed := by kernel_rfl
 f129 := Tryz.func276.trans (congrArg some (by kernel_rfl))
 f171 := Tryz.func191.trans (congrArg some (by kernel_rfl))
 f243 := Tryz.func247.trans (congrArg some (by kernel_rfl))
 f246 := Tryz.func265.trans (congrArg some (by kernel_rfl))
 f283 := Tryz.func291.trans (congrArg some (by kernel_rfl))
 f284 := Tryz.func292.trans (congrArg some (by kernel_rfl))
 f285 := Tryz.func293.trans (congrArg some (by kernel_rfl))
 f286 := Tryz.func294.trans (congrArg some (by kernel_rfl))
 f317 := Tryz.func312.trans (congrArg some (by kernel_rfl))
 f318 := Tryz.func313.trans (congrArg some (by kernel_rfl))
 f319 := Tryz.func314.trans (congrArg some (by kernel_rfl))
 f320 := Tryz.func315.trans (congrArg some (by kernel_rfl))
 f337 := Tryz.func326.trans (congrArg some (by kernel_rfl))
 f338 := Tryz.func327.trans (congrArg some (by kernel_rfl))
 t0 := Tryz.underlying0
 a0 := Tryz.isAgg0
 z0 := Tryz.sizeOf0
 v0 := Tryz.zeroValue0
 t2 := Tryz.underlying2
 a2 := Tryz.isAgg2
 z2 := Tryz.sizeOf2
 v2 := Tryz.zeroValue2
 t3 := Tryz.underlying3
 a3 := Tryz.isAgg3
 z3 := Tryz.sizeOf3
 v3 := Tryz.zeroValue3
 t4 := Tryz.underlying4
 a4 := Tryz.isAgg4
 z4 := Tryz.sizeOf4
 v4 := Tryz.zeroValue4
 t5 := Tryz.underlying5
 a5 := Tryz.isAgg5
 z5 := Tryz.sizeOf5
 v5 := Tryz.zeroValue5
 t9 := Tryz.underlying9
 a9 := Tryz.isAgg9
 z9 := Tryz.sizeOf9
 v9 := Tryz.zeroValue9
 t20 := Tryz.underlying20
 a20 := Tryz.isAgg20
 z20 := Tryz.sizeOf20
 v20 := Tryz.zeroValue20
 t37 := Tryz.underlying405
 a37 := Tryz.isAgg405
 z37 := Tryz.sizeOf405
 v37 := Tryz.zeroValue405
 t46 := Tryz.underlying365
 a46 := Tryz.isAgg365
 z46 := Tryz.sizeOf365
 v46 := Tryz.zeroValue365
 t51 := Tryz.underlying247
 a51 := Tryz.isAgg247
 z51 := Tryz.sizeOf247
 v51 := Tryz.zeroValue247
 t53 := Tryz.underlying392
 a53 := Tryz.isAgg392
 z53 := Tryz.sizeOf392
 v53 := Tryz.zeroValue392
 t171 := Tryz.underlying403
 a171 := Tryz.isAgg403
 z171 := Tryz.sizeOf403
 v171 := Tryz.zeroValue403
 t173 := Tryz.underlying406
 a173 := Tryz.isAgg406
 z173 := Tryz.sizeOf406
 v173 := Tryz.zeroValue406
 t212 := Tryz.underlying418
 a212 := Tryz.isAgg418
 z212 := Tryz.sizeOf418
 v212 := Tryz.zeroValue418
 t213 := Tryz.underlying419
 a213 := Tryz.isAgg419
 z213 := Tryz.sizeOf419
 t232 := Tryz.underlying430
 a232 := Tryz.isAgg430
 z232 := Tryz.sizeOf430
 v232 := Tryz.zeroValue430
 t233 := Tryz.underlying431
 a233 := Tryz.isAgg431
 z233 := Tryz.sizeOf431
 v233 := Tryz.zeroValue431
 g17 := by kernel_rfl
 g18 := by kernel_rfl
 g19 := by kernel_rfl
 i0 := by kernel_rfl
 i2 := by kernel_rfl
 i3 := by kernel_rfl
 i4 := by kernel_rfl
 i5 := by kernel_rfl
 i9 := by kernel_rfl
 i20 := by kernel_rfl
 i37 := by kernel_rfl
 i46 := by kernel_rfl
 i51 := by kernel_rfl
 i53 := by kernel_rfl
 i171 := by kernel_rfl
 i173 := by kernel_rfl
 i212 := by kernel_rfl
 i232 := by kernel_rfl
 i233 := by kernel_rfl
 m17 := by kernel_rfl
 m18 := by kernel_rfl
 m19 := by kernel_rfl }
open Go.RowKit Go.Sort Go.Lib in
theorem Tryz.strconv_Itoa (n : Int) (h0 : -9223372036854775808 ≤ n) (h1 : n ≤ 9223372036854775807) (w : World) (htab : Lib.TabIs Tryz.prog w "internal/strconv.uint64pow10" .u64 Lib.pow10Tab) :
  Calls Tryz.prog 191 #[.int .i64 n] w fun e w' => e = .returned (.string ⟨(Lib.itoa n).toArray⟩) ∧ ∃ k os, w' = grow (w.drewN k) os := Any.strconv_Itoa Tryz.laysM171 n h0 h1 w htab
def Tryz.lays190_ren : Go.Shelf.Ren := ⟨fun | 190 => 193 | 125 => 250 | 258 => 249 | 128 => 275 | 129 => 276 | 302 => 266 | 303 => 267 | 304 => 268 | 305 => 269 | 306 => 270 | 307 => 271 | 308 => 272 | 309 => 273 | 310 => 274 | 333 => 295 | 329 => 296 | 330 => 297 | 334 => 298 | 335 => 299 | 336 => 300 | 344 => 316 | n => n, fun | 31 => 94 | 9 => 9 | 3 => 3 | 46 => 365 | 0 => 0 | 51 => 247 | 53 => 392 | 4 => 4 | 183 => 384 | 182 => 383 | 131 => 133 | 5 => 5 | 218 => 408 | 222 => 412 | 228 => 421 | 229 => 422 | n => n, fun | n => n⟩
theorem Tryz.lays190 : Go.Proofs.Lays.n190 Tryz.prog Tryz.lays190_ren := {
 mixed := by kernel_rfl
 f125 := Tryz.func250.trans (congrArg some (by kernel_rfl))
 f128 := Tryz.func275.trans (congrArg some (by kernel_rfl))
 f129 := Tryz.func276.trans (congrArg some (by kernel_rfl))
 f190 := Tryz.func193.trans (congrArg some (by kernel_rfl))
 f258 := Tryz.func249.trans (congrArg some (by kernel_rfl))
 f302 := Tryz.func266.trans (congrArg some (by kernel_rfl))
 f303 := Tryz.func267.trans (congrArg some (by kernel_rfl))
 f304 := Tryz.func268.trans (congrArg some (by kernel_rfl))
 f305 := Tryz.func269.trans (congrArg some (by kernel_rfl))
 f306 := Tryz.func270.trans (congrArg some (by kernel_rfl))
 f307 := Tryz.func271.trans (congrArg some (by kernel_rfl))
 f308 := Tryz.func272.trans (congrArg some (by kernel_rfl))
 f309 := Tryz.func273.trans (congrArg some (by kernel_rfl))
 f310 := Tryz.func274.trans (congrArg some (by kernel_rfl))
 f329 := Tryz.func296.trans (congrArg some (by kernel_rfl))
 f330 := Tryz.func297.trans (congrArg some (by kernel_rfl))
 f333 := Tryz.func295.trans (congrArg some (by kernel_rfl))
 f334 := Tryz.func298.trans (congrArg some (by kernel_rfl))
 f335 := Tryz.func299.trans (congrArg some (by kernel_rfl))
 f336 := Tryz.func300.trans (congrArg some (by kernel_rfl))
 f344 := Tryz.func316.trans (congrArg some (by kernel_rfl))
 t0 := Tryz.underlying0
 a0 := Tryz.isAgg0
 z0 := Tryz.sizeOf0
 v0 := Tryz.zeroValue0
 t3 := Tryz.underlying3
 a3 := Tryz.isAgg3
 z3 := Tryz.sizeOf3
 v3 := Tryz.zeroValue3
 t4 := Tryz.underlying4
 a4 := Tryz.isAgg4
 z4 := Tryz.sizeOf4
 v4 := Tryz.zeroValue4
 t5 := Tryz.underlying5
 a5 := Tryz.isAgg5
 z5 := Tryz.sizeOf5
 v5 := Tryz.zeroValue5
 t9 := Tryz.underlying9
 a9 := Tryz.isAgg9
 z9 := Tryz.sizeOf9
 v9 := Tryz.zeroValue9
 t31 := Tryz.underlying94
 a31 := Tryz.isAgg94
 z31 := Tryz.sizeOf94
 v31 := Tryz.zeroValue94
 t46 := Tryz.underlying365
 a46 := Tryz.isAgg365
 z46 := Tryz.sizeOf365
 v46 := Tryz.zeroValue365
 t51 := Tryz.underlying247
 a51 := Tryz.isAgg247
 z51 := Tryz.sizeOf247
 v51 := Tryz.zeroValue247
 t53 := Tryz.underlying392
 a53 := Tryz.isAgg392
 z53 := Tryz.sizeOf392
 v53 := Tryz.zeroValue392
 t131 := Tryz.underlying133
 a131 := Tryz.isAgg133
 z131 := Tryz.sizeOf133
 v131 := Tryz.zeroValue133
 t182 := Tryz.underlying383
 a182 := Tryz.isAgg383
 z182 := Tryz.sizeOf383
 v182 := Tryz.zeroValue383
 t183 := Tryz.underlying384
 a183 := Tryz.isAgg384
 z183 := Tryz.sizeOf384
 v183 := Tryz.zeroValue384
 t218 := Tryz.underlying408
 a218 := Tryz.isAgg408
 z218 := Tryz.sizeOf408
 v218 := Tryz.zeroValue408
 t222 := Tryz.underlying412
 a222 := Tryz.isAgg412
 z222 := Tryz.sizeOf412
 v222 := Tryz.zeroValue412
 t228 := Tryz.underlying421
 a228 := Tryz.isAgg421
 z228 := Tryz.sizeOf421
 v228 := Tryz.zeroValue421
 t229 := Tryz.underlying422
 a229 := Tryz.isAgg422
 z229 := Tryz.sizeOf422
 v229 := Tryz.zeroValue422 }
open Go.Sort Go.RowKit in
theorem Tryz.slices_Sort_string (blk off cap : Nat) (ss : List (List UInt8)) (w : World) (hH : Holds encStr w blk off ss.toArray) (hblk : blk < w.heap.size) (hsz : ss.length < 4611686018427387904) :
  Calls Tryz.prog 193 #[.slice (some ⟨blk, off, none⟩) ss.length cap] w fun e w' =>
   e = .returned (.tuple #[]) ∧ ∃ n os, w' = grow (putRow encStr (Sort.ahead w n) blk off (ss.mergeSort fun x y => decide (x ≤ y)).toArray) os := Any.slices_Sort_string Tryz.lays190 blk off cap ss w hH hblk hsz
open Go.RowKit Go.Sort in
theorem Tryz.slices_Sort_string_none (p : Option Addr) (cap : Nat) (w : World) :
  Calls Tryz.prog 193 #[.slice p 0 cap] w fun e w' => e = .returned (.tuple #[]) ∧ w' = w := Any.slices_Sort_string_none Tryz.lays190 p cap w
end Go.Proofs
namespace Go.Proofs.YtdjffkkbjbiihaaGreatDoor
open Go.RowKit
theorem rV : Reads Tryz.prog 112 RV := reads_V Tryz.underlying112 (by kernel_rfl) Tryz.underlying110 Tryz.underlying2 Tryz.underlying9 rfl rfl rfl (by kernel_rfl) (by kernel_rfl) (by kernel_rfl)
def chk (k n : Int) (s : ByteArray) : Int := if (k == 1) = true ∧ s.toList.isEmpty = true then 0 else if (k == 2) = true ∧ n = 0 ∧ s.size ≤ 200 then 0 else 10
set_option maxHeartbeats 400000 in
theorem check_any (k n : Int) (s : ByteArray) (w : World) (hs : s.size ≤ 140737488351232) :
  Calls Tryz.prog 321 #[.agg #[.int .i8 k, .int .i64 n, .string s]] w fun e w' => e = .returned (.int .i64 (chk k n s)) ∧ Fut w w' := by
 go_enter Tryz.func321, Tryz.ntmps321
 go_wp2
 all_goals go_ret
 all_goals refine ⟨?_, Fut.alloc _ _⟩
 all_goals (congr 2; unfold chk)
 all_goals simp_all
 all_goals omega
set_option maxHeartbeats 400000 in
theorem rcheck_any (k n : Int) (s : ByteArray) (w : World) (hs : s.size ≤ 140737488351232) :
  Calls Tryz.prog 318 #[.agg #[.int .i8 k, .int .i64 n, .string s]] w fun e w' => e = .returned (.int .i64 (chk k n s)) ∧ Fut w w' := by
 go_enter Tryz.func318, Tryz.ntmps318
 go_wp2
 all_goals go_ret
 all_goals refine ⟨?_, Fut.alloc _ _⟩
 all_goals (congr 2; unfold chk)
 all_goals simp_all
 all_goals omega
theorem cmpBytes_less : ∀ a b : List UInt8, Op.bytesLess a b = decide (Lib.compareBytes a b < 0)
 | [], [] => rfl
 | [], _ :: _ => rfl
 | _ :: _, [] => rfl
 | a :: r, b :: q => by
  simp only [Lib.compareBytes, Op.bytesLess]
  by_cases h1 : a < b
  ·simp [h1]
  ·by_cases h2 : b < a
   ·have hne : ¬ a = b := fun e => by subst e; exact absurd h2 (UInt8.lt_irrefl _)
    simp [h1, h2, hne]
   ·have he : a = b := UInt8.le_antisymm (UInt8.not_lt.1 h2) (UInt8.not_lt.1 h1)
    subst he
    simp [h1, cmpBytes_less r q]
def cmpS (a b : ByteArray) : Int := Lib.compareBytes a.data.toList b.data.toList
instance : DecidableEq V := fun x y =>
 if h : x.k = y.k ∧ x.n = y.n ∧ x.s.toList = y.s.toList then
  .isTrue (by obtain ⟨k, n, s⟩ := x; obtain ⟨k', n', s'⟩ := y; simp only at h; obtain ⟨rfl, rfl, h⟩ := h; rw [ByteArray.toList_eq, ByteArray.toList_eq] at h; rw [WideShapes.bytes_inj h])
 else .isFalse (fun e => h (by subst e; exact ⟨rfl, rfl, rfl⟩))
def markV : V := ⟨99, 777777, ⟨#[]⟩⟩
def TwinR (B : Nat) (w : World) (v : Value) (xs : List V) : Prop :=
 ∃ g, B ≤ g ∧ v = .slice (some ⟨g, 0, none⟩) xs.length (xs.length + 1) ∧ BlkF w g 112 ((xs.length + 1) * 3) (flat (xs ++ [markV]))
theorem TwinR.fut {B : Nat} {w w' : World} {v : Value} {xs : List V} (h : TwinR B w v xs) (hf : Fut w w') : TwinR B w' v xs := by
 obtain ⟨g, h1, h2, h3⟩ := h
 exact ⟨g, h1, h2, h3.fut hf⟩
theorem flat_left (xs ys : List V) (j : Nat) (h : j < xs.length * 3) : flat (xs ++ ys) j = flat xs j := by
 unfold flat
 rw [List.getElem?_append_left (by omega)]
theorem TwinR.vals {B : Nat} {w : World} {v : Value} {xs : List V} (h : TwinR B w v xs) (hok : ∀ x ∈ xs, x.ok) (hm : xs.length < 4398046511104) : Vals w v xs := by
 obtain ⟨g, h1, rfl, h3⟩ := h
 exact vals_of_blk h3 (by omega) (fun j hj => flat_left _ _ _ hj) (by omega) (by omega) hok
def parts : List Fc → Nat
 | [] => 0
 | f :: r => 1 + f.a.length + parts r
def Fc.cells (f : Fc) (u : Value) : List Value := [.string f.p, u]
def cmpU (a b : UInt8) : Int := if a < b then -1 else if b < a then 1 else 0
theorem ordU : Ord3 cmpU := by
 have key : ∀ a b, cmpU a b = cmpI a.toNat b.toNat := fun a b => by
  unfold cmpU cmpI
  simp only [UInt8.lt_iff_toNat_lt]
  (repeat' split) <;> omega
 constructor
 ·intro x y; rw [key]; exact ordI.rng _ _
 ·intro x y; rw [key, key]; exact ordI.swap _ _
 ·intro x y
  rw [key, ordI.zero]
  exact ⟨fun e => UInt8.toNat_inj.1 (by omega), fun e => by rw [e]⟩
 ·intro x y z; rw [key, key, key]; exact ordI.tr _ _ _
theorem cmpBytes_lcmp : ∀ a b : List UInt8, Lib.compareBytes a b = lcmp cmpU a b
 | [], [] => rfl
 | [], _ :: _ => rfl
 | _ :: _, [] => rfl
 | a :: r, b :: q => by
  simp only [Lib.compareBytes, lcmp, cmpU]
  by_cases h1 : a < b
  ·simp [h1]
  ·by_cases h2 : b < a
   ·simp [h1, h2]
   ·simp [h1, h2, cmpBytes_lcmp r q]
theorem ordS : Ord3 cmpS := by
 have h := lcmp_ord ordU
 have key : ∀ a b, cmpS a b = lcmp cmpU a.data.toList b.data.toList := fun a b => cmpBytes_lcmp _ _
 exact ⟨fun x y => by rw [key]; exact h.rng _ _, fun x y => by rw [key, key]; exact h.swap _ _,
  fun x y => by rw [key, h.zero]; exact ⟨fun e => WideShapes.bytes_inj e, fun e => by rw [e]⟩, fun x y z => by rw [key, key, key]; exact h.tr _ _ _⟩
def good (K : Int) (x : V) : Bool := x.k == K && chk x.k x.n x.s == 0
def letterN (c : Nat) : Bool := (decide (97 ≤ c) && decide (c ≤ 122)) || (decide (65 ≤ c) && decide (c ≤ 90)) || (decide (48 ≤ c) && decide (c ≤ 57)) || c == 95
def keyB (l : List UInt8) : Bool := l == [110, 111, 116] || l == [99, 111, 117, 110, 116] || l == [115, 117, 109] || l == [109, 105, 110] || l == [109, 97, 120] || l == [108, 101, 110] || l == [99, 104, 97, 114, 115] || l == [98, 97, 99, 107]
def nameV (s : ByteArray) : Bool := decide (0 < s.size) && decide (s.size ≤ 120) && (decide (97 ≤ (s.data.getD 0 0).toNat) && decide ((s.data.getD 0 0).toNat ≤ 122)) && s.data.toList.all (fun b => letterN b.toNat) && !keyB s.toList
theorem head_at (s : ByteArray) (h : 0 < s.size) : s.data[0]?.getD 0 = s[0] := by
 have : 0 < s.data.size := h
 rw [Array.getElem?_eq_getElem this]
 rfl
def OnlyF (l : List Nat) (w w' : World) : Prop :=
 w.heap.size ≤ w'.heap.size ∧ (∀ k, k < w.heap.size → k ∉ l → w'.heap[k]? = w.heap[k]?) ∧ ∀ B, B ≤ w.heap.size → (∀ g ∈ l, B ≤ g) → Below B w w'
theorem OnlyF.fut {l : List Nat} {w w' : World} (h : Fut w w') : OnlyF l w w' := ⟨h.size, fun k hk _ => Below.block h k hk, fun B hB _ => Below.mono h hB⟩
theorem OnlyF.refl (l : List Nat) (w : World) : OnlyF l w w := .fut (.refl w)
theorem OnlyF.trans {l : List Nat} {a b c : World} (h : OnlyF l a b) (k : OnlyF l b c) : OnlyF l a c :=
 ⟨Nat.le_trans h.1 k.1, fun i hi hl => (k.2.1 i (Nat.lt_of_lt_of_le hi h.1) hl).trans (h.2.1 i hi hl), fun B hB hl => (h.2.2 B hB hl).trans (k.2.2 B (Nat.le_trans hB h.1) hl)⟩
theorem OnlyF.more {l m : List Nat} {w w' : World} (h : OnlyF l w w') (hl : ∀ k ∈ l, k ∈ m) : OnlyF m w w' :=
 ⟨h.1, fun k hk hm => h.2.1 k hk fun hk' => hm (hl k hk'), fun B hB hm => h.2.2 B hB fun g hg => hm g (hl g hg)⟩
theorem OnlyF.set {l : List Nat} (w : World) (b : Nat) (u : Value) (hb : b ∈ l) : OnlyF l w (w.setCell ⟨b, 0, none⟩ u) :=
 ⟨by simp, fun k _ hk => Below.heap_setCell _ _ _ _ (fun e => hk (by have : k = b := e; rw [this]; exact hb)), fun B hB hl => (Below.refl B w).setCell (p := ⟨b, 0, none⟩) (hl b hb) u⟩
theorem OnlyF.row {l : List Nat} (w : World) (g : Nat) (cs : Array Value) (hb : g ∈ l) : OnlyF l w (w.setRow g cs) :=
 ⟨by simp [World.setRow], fun k _ hk => setRow_other w g k cs (fun e => hk (e ▸ hb)), fun B hB hl => ⟨rfl, rfl, rfl, by simp [World.setRow], fun k hk => setRow_other w g k cs (by have := hl g hb; omega)⟩⟩
theorem OnlyF.below {l : List Nat} {w w' : World} (h : OnlyF l w w') {B : Nat} (hB : B ≤ w.heap.size) (hl : ∀ g ∈ l, B ≤ g) : Below B w w' := h.2.2 B hB hl
def World.stepIter (w : World) (k : Nat) (s : ByteArray) (pos : Nat) : World := { w with heap := w.heap.setIfInBounds k (.stringIter s pos) }
theorem OnlyF.step {l : List Nat} (w : World) (k : Nat) (s : ByteArray) (pos : Nat) (hb : k ∈ l) : OnlyF l w (World.stepIter w k s pos) :=
 have e : ∀ j, j ≠ k → (World.stepIter w k s pos).heap[j]? = w.heap[j]? := fun j hj => by
  unfold World.stepIter
  simp [Array.getElem?_setIfInBounds, Ne.symm hj]
 ⟨by simp [World.stepIter], fun j _ hj => e j (fun h => hj (h ▸ hb)), fun B hB hl => ⟨rfl, rfl, rfl, by simp [World.stepIter], fun j hj => e j (by have := hl k hb; omega)⟩⟩
theorem run_next_at {P : Program} (w : World) (k : Nat) (s : ByteArray) (pos : Nat) (ty : TypeId) (hk : w.heap[k]? = some (.stringIter s pos)) (h : pos < s.size) :
  (Instr.next (.pointer (some ⟨k, 0, none⟩)) true ty).run P w = .ok (.tuple #[.bool true, .int .i64 pos, .int .i32 (Utf8.decode s pos).1]) (World.stepIter w k s (pos + (Utf8.decode s pos).2)) := by
 simp only [Instr.next, getObj, setObj, Sem.run_bind, Sem.run, hk, Result.andThen, h, if_true]
 simp [goInt, World.stepIter]
def RB (_ : World) (cs : List Value) (x : UInt8) : Prop := cs = [.int .u8 x.toNat]
theorem RB.stays : Stays RB := fun _ _ _ _ _ h => h
theorem RB.one : ∀ (w : World) cs x, RB w cs x → ∀ u ∈ cs, u.oneCell' = true := fun w cs x h u hu => by
 subst h
 simp at hu; subst hu; rfl
set_option maxHeartbeats 1000000 in
theorem letter_any (c : Nat) (hc : c < 256) (w : World) : Calls Tryz.prog 317 #[.int .u8 c] w fun e w' => e = .returned (.bool (letterN c)) ∧ w' = w := by
 by_cases h95 : c = 95
 ·subst h95
  go_enter Tryz.func317, Tryz.ntmps317
  go_wp2
  go_ret
  exact ⟨rfl, rfl⟩
 ·have d : ((c : Int) == 95) = false := by simp; omega
  go_enter Tryz.func317, Tryz.ntmps317
  go_wp2
  all_goals go_ret
  all_goals refine ⟨?_, rfl⟩
  all_goals simp [letterN, h95]
  all_goals first | omega | (rw [Bool.eq_iff_iff]; simp; omega)
set_option maxHeartbeats 1000000 in
theorem keyword_any (s : ByteArray) (w : World) : Calls Tryz.prog 302 #[.string s] w fun e w' => e = .returned (.bool (keyB s.toList)) ∧ w' = w := by
 go_enter Tryz.func302, Tryz.ntmps302
 go_wp2
 all_goals go_ret
 all_goals refine ⟨?_, rfl⟩
 all_goals unfold keyB
 all_goals simp_all
abbrev TE : TypeId := 5
def Marked (b : Nat) (w w' : World) : Prop := ∀ (k : Nat) cur t fr, w.heap[k]? = some (.cells cur t fr) → k ≠ b → (t = TE → fr ≠ (0, 0)) → w'.heap[k]? = some (.cells cur t fr)
theorem Marked.refl (b : Nat) (w : World) : Marked b w w := fun _ _ _ _ h _ _ => h
theorem Marked.trans {b : Nat} {x y z : World} (h : Marked b x y) (k : Marked b y z) : Marked b x z := fun i c t f hi hb ht => k i c t f (h i c t f hi hb ht) hb ht
theorem Marked.set {b : Nat} (w : World) (o : Nat) (u : Value) : Marked b w (w.setCell ⟨b, o, none⟩ u) := fun k c t f hk hb ht => by
 rw [Below.heap_setCell _ _ _ _ (by exact hb)]; exact hk
theorem Marked.fut {b : Nat} {w w' : World} (h : Fut w w') : Marked b w w' := fun k c t f hk _ _ => Fut.block h hk
theorem Marked.grown {b : Nat} {w w' : World} {base sz n : Nat} {v : Value} {xs : List Value} (h : w.ownsRow base TE sz v n xs) (hg : w.grownBy w' v.ownBlock) : Marked b w w' := fun k c t f hk _ ht => by
 refine (hg.block k (lt_of_block hk) fun e => ?_).trans hk
 rcases h.2 with ⟨rfl, _⟩ | ⟨g, cap, cur, rfl, _, hh, _⟩
 ·cases e
 ·simp only [Value.ownBlock, Option.some.injEq] at e
  subst e
  rw [hk] at hh
  simp only [Option.some.injEq, Obj.cells.injEq] at hh
  exact ht hh.2.1 hh.2.2
def hx (n : Nat) : UInt8 := if n < 10 then UInt8.ofNat (48 + n) else UInt8.ofNat (87 + n)
def wroteV (lo hi : Nat) (s : ByteArray) : Bool := decide (0 < s.size) && decide (s.size ≤ 120) && (decide (lo ≤ (s.data.getD 0 0).toNat) && decide ((s.data.getD 0 0).toNat ≤ hi)) && s.data.toList.all (fun b => letterN b.toNat)
theorem nameV_eq (s : ByteArray) : nameV s = (wroteV 97 122 s && !keyB s.toList) := rfl
set_option maxHeartbeats 1600000 in
set_option maxRecDepth 100000 in
theorem written_any (s : ByteArray) (lo hi : Nat) (w : World) (hs : s.size ≤ 140737488351232) (hlo : ∀ c, lo ≤ c → c ≤ hi → letterN c = true) (h256 : lo < 256 ∧ hi < 256) :
  Calls Tryz.prog 301 #[.string s, .int .u8 lo, .int .u8 hi] w fun e w' => e = .returned (.bool (wroteV lo hi s)) ∧ w' = w := by
 have hlow : Hid (∀ (h : 0 < s.size), wroteV lo hi s = true → lo ≤ s[0].toNat ∧ s[0].toNat ≤ hi ∧ s.size ≤ 120) := Lib.hid fun h hn => by
  simp [wroteV] at hn
  rw [show s.data[0]?.getD 0 = s[0] from head_at s h] at hn
  omega
 have hmk : Hid (∀ (h : 0 < s.size), lo ≤ s[0].toNat → s[0].toNat ≤ hi → s.size ≤ 120 → s.data.toList.all (fun b => letterN b.toNat) = true → wroteV lo hi s = true) := Lib.hid fun h h1 h2 h3 h4 => by
  unfold wroteV
  rw [h4]
  simp [h, h3, head_at s h]
  exact ⟨h1, h2⟩
 have hnil : Hid (s.size = 0 → wroteV lo hi s = false) := Lib.hid fun h => by simp [wroteV, h]
 have hall : Hid (∀ k (hk : k < s.size), letterN s[k].toNat = false → wroteV lo hi s = false) := Lib.hid fun k hk h => by
  have : s.data.toList.all (fun b => letterN b.toNat) = false := by
   rw [List.all_eq_false]
   exact ⟨s[k], Array.mem_toList_iff.2 (Array.getElem_mem (xs := s.data) hk), by simp [h]⟩
  unfold wroteV
  rw [this]; simp
 have HLO := Lib.hid hlo
 clear hlo
 generalize wroteV lo hi s = R at *
 by_cases c0 : s.size = 0
 ·have e0 : (s.size : Int) < 1 := by omega
  have hr := Lib.hid (hnil.out c0)
  clear c0
  go_enter Tryz.func301, Tryz.ntmps301
  go_wp2
  go_ret
  exact ⟨by rw [hr.out]; rfl, rfl⟩
 ·have hpos : 0 < s.size := by omega
  have e0 : ¬ (s.size : Int) < 1 := by omega
  clear c0
  by_cases c1 : (120 : Int) < s.size
  ·have hr := Lib.hid (show R = false by
    cases hn : R with
    | false => rfl
    | true => have := hlow.out hpos hn; omega)
   go_enter Tryz.func301, Tryz.ntmps301
   go_wp2
   go_ret
   exact ⟨by rw [hr.out]; rfl, rfl⟩
  ·by_cases c2 : ((s[0]).toNat : Int) < lo
   ·have hr := Lib.hid (show R = false by
     cases hn : R with
     | false => rfl
     | true => have := hlow.out hpos hn; omega)
    go_enter Tryz.func301, Tryz.ntmps301
    go_wp2
    go_ret
    exact ⟨by rw [hr.out]; rfl, rfl⟩
   ·by_cases c3 : (hi : Int) < (s[0]).toNat
    ·have hr := Lib.hid (show R = false by
      cases hn : R with
      | false => rfl
      | true => have := hlow.out hpos hn; omega)
     go_enter Tryz.func301, Tryz.ntmps301
     go_wp2
     go_ret
     exact ⟨by rw [hr.out]; rfl, rfl⟩
    ·have hmk' := Lib.hid (hmk.out hpos (by omega) (by omega) (by omega))
     have hg0 := Lib.hid (HLO.out s[0].toNat (by omega) (by omega))
     clear hmk hlow hnil
     go_enter Tryz.func301, Tryz.ntmps301
     go_wp2
     go_loop [7] (fun i => ∃ k : Nat, 1 ≤ k ∧ k ≤ s.size ∧ i = .int .i64 k ∧ Hid (∀ j (hj : j < s.size), j < k → letterN (s[j]).toNat = true)) (fun i => s.size - (intOf i).toNat)
     case atStart =>
      have h1' : ∀ j (hj : j < s.size), j < 1 → letterN (s[j]).toNat = true := by
       intro j hj h
       have e : j = 0 := by omega
       subst e
       exact hg0.out
      exact ⟨1, Nat.le_refl _, hpos, rfl, Lib.hid h1'⟩
     case round =>
      obtain ⟨k, hk1, hk, rfl, hg⟩ := hrel
      by_cases hlt : k < s.size
      ·have hc := letter_any s[k].toNat (UInt8.toNat_lt _) w
       have hs1 := Lib.hid (fun h : letterN (s[k]).toNat = true => (fun j hj hjk => by
        rcases Nat.lt_or_ge j k with h' | h'
        ·exact hg.out j hj h'
        ·obtain rfl : j = k := by omega
         exact h : ∀ j (hj : j < s.size), j < k + 1 → letterN (s[j]).toNat = true))
       have hs2 := Lib.hid (hall.out k hlt)
       cases hl2 : letterN s[k].toNat with
       | true =>
        rw [hl2] at hc
        have HC := Lib.hid hc
        have hs3 := Lib.hid (hs1.out hl2)
        clear hc hl2 hs1 hs2
        go_wp2_with fail
        refine HC.out.mono ?_
        rintro e w1 ⟨rfl, rfl⟩
        go_wp2
        exact ⟨⟨k + 1, by omega, by omega, by go_num, hs3⟩, by simp [intOf]; omega⟩
       | false =>
        rw [hl2] at hc
        have HC := Lib.hid hc
        have hr := Lib.hid (hs2.out hl2)
        clear hc hl2 hs1 hs2
        go_wp2_with fail
        refine HC.out.mono ?_
        rintro e w1 ⟨rfl, rfl⟩
        go_wp2
        go_ret
        exact ⟨by rw [hr.out]; rfl, rfl⟩
      ·obtain rfl : k = s.size := by omega
       have hr := Lib.hid (hmk'.out (by
        rw [List.all_eq_true]
        intro b hb
        obtain ⟨j, hj⟩ := List.getElem?_of_mem hb
        have hjl := (List.getElem?_eq_some_iff.1 hj).1
        have := hg.out j (by simpa using hjl) (by simpa using hjl)
        have e : b = s[j]'(by simpa using hjl) := by
         have := (List.getElem?_eq_some_iff.1 hj).2
         rw [← this]; rfl
        rw [e]; exact this))
       go_wp2
       go_ret
       exact ⟨by rw [hr.out]; rfl, rfl⟩
set_option maxHeartbeats 1000000 in
theorem rname_any (s : ByteArray) (w : World) (hs : s.size ≤ 140737488351232) :
  Calls Tryz.prog 277 #[.string s] w fun e w' => e = .returned (.bool (nameV s)) ∧ Fut w w' := by
 have hw := written_any s 97 122 w hs (fun c h1 h2 => by simp [letterN, h1, h2]) (by omega)
 have hk := Lib.hid (keyword_any s)
 have hr := Lib.hid (nameV_eq s)
 cases h : wroteV 97 122 s with
 | true =>
  rw [h] at hw hr
  have HW := Lib.hid hw
  clear hw h
  generalize nameV s = R at hr ⊢
  generalize keyB s.toList = K at hk hr
  go_enter Tryz.func277, Tryz.ntmps277
  go_wp2_with fail
  refine HW.out.mono ?_
  rintro e w1 ⟨rfl, rfl⟩
  go_wp2_with fail
  refine (hk.out _).mono ?_
  rintro e w1 ⟨rfl, rfl⟩
  go_wp2
  all_goals go_ret
  all_goals exact ⟨by rw [hr.out]; simp, Fut.refl _⟩
 | false =>
  rw [h] at hw hr
  have HW := Lib.hid hw
  clear hw h
  generalize nameV s = R at hr ⊢
  go_enter Tryz.func277, Tryz.ntmps277
  go_wp2_with fail
  refine HW.out.mono ?_
  rintro e w1 ⟨rfl, rfl⟩
  go_wp2
  go_ret
  exact ⟨by rw [hr.out]; rfl, Fut.refl _⟩
def Pows (w : World) : Prop := Lib.TabIs Tryz.prog w "internal/strconv.uint64pow10" .u64 Lib.pow10Tab
theorem var_fut {P : Program} {w w' : World} {n : String} {cs : Array Value} (h : w.var? P n = some cs) (hf : Fut w w') : w'.var? P n = some cs := by
 unfold World.var? at h ⊢
 cases hg : P.globalNamed n with
 | none => simp [hg] at h
 | some g =>
  simp only [hg, Option.bind_some] at h ⊢
  have hlt : g < w.heap.size := by
   rcases Nat.lt_or_ge g w.heap.size with h' | h'
   ·exact h'
   ·simp [Array.getElem?_eq_none h'] at h
  rw [Below.block hf g hlt]
  exact h
theorem Pows.fut {w w' : World} (h : Pows w) (hf : Fut w w') : Pows w' := var_fut (P := Tryz.prog) h hf
theorem fut_grow (w : World) (k : Nat) (os : Array Obj) : Fut w (Sort.grow (w.drewN k) os) :=
 ⟨rfl, rfl, rfl, by simp [Sort.grow, World.drewN], fun j hj => by
  show (w.heap ++ os)[j]? = _
  rw [Array.getElem?_append_left hj]⟩
theorem pows_of_laid {W : World} {l : List (String × DataW Unit)} (h : laidMet Tryz.prog l W) (hm : ("internal/strconv.uint64pow10", Rows.laid_internal_strconv_uint64pow10) ∈ l) : Pows W := by
 obtain ⟨g, t, cs, fuel, p, hg, ht, hvar, hd⟩ := Lib.laidMet.reads h hm
 obtain rfl := Option.some.inj ((show Tryz.prog.globalNamed "internal/strconv.uint64pow10" = some 0 by kernel_rfl).symm.trans hg)
 obtain rfl := Option.some.inj ((show (Tryz.prog.globals[0]?).map (·.type) = some 418 by kernel_rfl).symm.trans ht)
 have hcs : cs.toList = Lib.pow10Tab.map fun z => Value.int .u64 z :=
  Lib.cells_of_tab (k := .u64) (zs := Lib.pow10Tab) Tryz.underlying418 Tryz.underlying392 (by kernel_rfl) (by kernel_rfl) hd
 unfold Pows Lib.TabIs
 rw [hvar, ← hcs]
end Go.Proofs.YtdjffkkbjbiihaaGreatDoor
namespace Go.Proofs.YtdjffkkbjbiihaaGreatDoor
open Go.RowKit Go.Lib
theorem dec_len : ∀ (k u : Nat), u < 10 ^ k → (decDigits u).length ≤ k + 1
 | 0, u, h => by rw [decDigits, dif_pos (by simp at h; omega)]; simp
 | k + 1, u, h => by
  by_cases h1 : u < 10
  ·rw [decDigits, dif_pos h1]; simp
  ·rw [decDigits, dif_neg h1]
   have := dec_len k (u / 10) (by rw [Nat.pow_succ] at h; omega)
   simp; omega
theorem itoa_len (n : Int) (h : -9223372036854775808 ≤ n ∧ n ≤ 9223372036854775807) : (itoa n).length ≤ 30 := by
 unfold itoa
 split
 ·have := dec_len 20 n.natAbs (by omega)
  simp; omega
 ·have := dec_len 20 n.toNat (by omega)
  omega
end Go.Proofs.YtdjffkkbjbiihaaGreatDoor
namespace Go.Proofs.YtdjffkkbjbiihaaGreatDoor
open Go.RowKit
def wordS : ByteArray := ⟨#[35]⟩ ++ ⟨(Lib.itoa 777777).toArray⟩
set_option maxHeartbeats 400000 in
theorem word_any' (w : World) (hP : Pows w) : Calls Tryz.prog 77 #[.int .i64 777777] w fun e w' => e = .returned (.string wordS) ∧ Fut w w' := by
 have HI : Hid (Calls Tryz.prog 191 #[.int .i64 777777] w fun e w' => e = .returned (.string ⟨(Lib.itoa 777777).toArray⟩) ∧ Fut w w') :=
  Lib.hid ((Tryz.strconv_Itoa 777777 (by omega) (by omega) w hP).mono fun e w' ⟨h, k, os, hw⟩ => ⟨h, hw ▸ fut_grow w k os⟩)
 have hsz : (⟨(Lib.itoa 777777).toArray⟩ : ByteArray).size ≤ 30 := by
  rw [Lib.size_eq]; exact itoa_len 777777 (by omega)
 unfold wordS
 generalize (⟨(Lib.itoa 777777).toArray⟩ : ByteArray) = t at HI hsz ⊢
 have h1 : (⟨#[35]⟩ : ByteArray).size = 1 := rfl
 go_enter Tryz.func77, Tryz.ntmps77
 go_wp2_with fail
 refine HI.out.mono ?_
 rintro e w1 ⟨rfl, h1⟩
 go_wp2
 go_ret
 exact ⟨rfl, h1⟩
end Go.Proofs.YtdjffkkbjbiihaaGreatDoor
namespace Go.Proofs.YtdjffkkbjbiihaaGreatDoor
open Go.RowKit Go.ChangeShapes Go.WideShapes Go.ChangeAt Go.Deep
def ReadsD {α : Type} (k : Nat) (P : Program) (t : TypeId) (R : World → List Value → α → Prop) : Prop :=
 ∀ (H : Type) (enc : TypeId × Value → H) (w : World) (base : Nat) (held : Bool) (fuel : Nat) (cs : List Value) (x : DataW H × List MemPlace), DataW.trod enc P w base (fun _ => true) held fuel t cs = some x →
  (∀ n ∈ x.1.weights P t, n ≤ reachBytes) → SizeOf.sizeOf x.1 < k → ∃ d, R w cs d
theorem reads_ofD {α : Type} {P : Program} {t : TypeId} {R : Nat → World → List Value → α → Prop} (h : ∀ k, ReadsD k P t (R k)) : Reads P t (fun w cs d => ∃ k, R k w cs d) := fun H enc w base held fuel cs x hx hn => by
 obtain ⟨d, hd⟩ := h _ H enc w base held fuel cs x hx hn (Nat.lt_succ_self _)
 exact ⟨d, _, hd⟩
theorem readsD_slice {α : Type} {P : Program} {t e : TypeId} {sz M : Nat} {R : World → List Value → α → Prop} (ht : P.underlying t = some (.slice e)) (hc : P.cellsOf e = sz) (h0 : 0 < sz) (hM : ∀ c, c * P.bytesOf e ≤ reachBytes → c ≤ M) {k : Nat} (hR : ReadsD k P e R) : ReadsD k P t (SlR sz M R) := by
 intro H enc w base held fuel cs x h hn hsz
 rcases open_slice ht h with ⟨h1, _⟩ | ⟨a, len, cap, m, n, D, Pl, hcs, hb, hl, hm, hmm, hx, hi⟩
 ·exact ⟨[], _, h1, SlRep.nil⟩
 ·have hlm : len ≤ m := by rw [hmm]; simp; exact hl
  have hmc : m = cap := by rw [hmm]; simp
  have hw : x.1.weights P t = (len + (cap - len)) * P.bytesOf e :: (DataW.weightsAll P e ((List.range len).map D) ++ DataW.weightsAll P e ((List.range (m - len)).map fun j => D (len + j))) := by
   rw [hx]
   simp [DataW.weights, ht, hmc]
  have hcap : cap ≤ M := hM cap (by
   have := hn ((len + (cap - len)) * P.bytesOf e) (by rw [hw]; simp)
   rwa [show len + (cap - len) = cap by omega] at this)
  obtain ⟨xs, hxl, hxs⟩ := exists_list (p := fun i x => ∃ b off cs', some a = some ⟨b, off, none⟩ ∧ cs'.length = sz ∧ (∀ j c, cs'[j]? = some c → w.cell? ⟨b, off + (i * sz + j), none⟩ = some c) ∧ R w cs' x) len fun i hil => by
   obtain ⟨cs', h1, h2⟩ := hi i (by omega)
   obtain ⟨y, hy⟩ := hR H enc w base held n cs' _ h2 (fun k hk => hn k (by
    rw [hw]
    refine List.mem_cons_of_mem _ (List.mem_append_left _ (weightsAll_mem (d := D i) ?_ k hk))
    exact List.mem_map.2 ⟨i, List.mem_range.2 hil, rfl⟩)) (Nat.lt_trans (by
     rw [hx]
     have h9 : SizeOf.sizeOf (D i) < SizeOf.sizeOf ((List.range len).map D) := List.sizeOf_lt_of_mem (List.mem_map.2 ⟨i, List.mem_range.2 hil, rfl⟩)
     show SizeOf.sizeOf (D i) < SizeOf.sizeOf (DataW.slice ((List.range len).map D) ((List.range (m - len)).map fun j => D (len + j)))
     rw [DataW.slice.sizeOf_spec]
     omega) hsz)
   rw [hc] at h1
   obtain ⟨_, hlen, hcell⟩ := World.cells?_some h1
   obtain ⟨ab, ao, asp⟩ := a
   have hsp : asp = none ∨ ∀ j, j < sz → False := by
    cases asp with
    | none => exact .inl rfl
    | some q =>
     right
     intro j hj
     have h0' := (hi 0 (by omega))
     obtain ⟨cs0, hz0, _⟩ := h0'
     rw [hc] at hz0
     obtain ⟨_, hlen0, hcell0⟩ := World.cells?_some hz0
     have := hcell0 0 h0
     rw [List.getElem?_eq_getElem (by omega)] at this
     unfold World.cell? Addr.add at this
     simp at this
     split at this <;> simp at this
   rcases hsp with rfl | hsp
   ·refine ⟨y, ab, ao, cs', rfl, hlen, fun j c hj => ?_, hy⟩
    have hjl : j < sz := by rw [← hlen]; exact (List.getElem?_eq_some_iff.1 hj).1
    have := hcell j hjl
    rw [hj] at this
    rw [← this]
    congr 1
    unfold Addr.add
    by_cases h1' : i * sz = 0 <;> by_cases h2' : j = 0 <;> simp [h1', h2', Nat.add_assoc]
   ·exact (hsp 0 h0).elim
  exact ⟨xs, _, hcs, some a, cap, by rw [hxl], by omega, hcap, hxs⟩
theorem readsD_field {α : Type} {P : Program} {f : Field} {R : World → List Value → α → Prop} {H : Type} {enc : TypeId × Value → H} {w : World} {base : Nat} {held : Bool} {t : TypeId} {fs : Array Field} {fuel : Nat} {cs : List Value} {x : DataW H × List MemPlace}
  (hs : P.underlying t = some (.struct fs)) (h : DataW.trod enc P w base (fun _ => true) held fuel t cs = some x) (hn : ∀ n ∈ x.1.weights P t, n ≤ reachBytes) (i : Nat) (hi : fs[i]? = some f) {k : Nat} (hk : SizeOf.sizeOf x.1 < k + 1) (hR : ReadsD k P f.type R) :
  ∃ d, R w ((cs.drop f.offset).take (P.cellsOf f.type)) d := by
 obtain ⟨xs, n, _, hx, _, hl, hf⟩ := DataW.trod_struct hs h
 have h1 := hf i f hi
 have hil : i < fs.size := (Array.getElem?_eq_some_iff.1 hi).1
 have hxi : xs[i]? = some (xs[i]'(by omega)) := List.getElem?_eq_getElem (by omega)
 rw [hxi] at h1
 have hsz : SizeOf.sizeOf (xs[i]'(by omega)).1 < k := by
  have h9 : SizeOf.sizeOf (xs[i]'(by omega)).1 < SizeOf.sizeOf (xs.map (·.1)) := List.sizeOf_lt_of_mem (List.mem_map.2 ⟨_, List.getElem_mem (by omega), rfl⟩)
  rw [hx, DataW.agg.sizeOf_spec] at hk
  omega
 refine hR H enc w base held n _ _ h1 (fun k hk => hn k ?_) hsz
 rw [hx]
 simp only [DataW.weights, hs]
 refine DataW.weights_mem_each (j := i) (t := f.type) (d := (xs[i]'(by omega)).1) ?_ (by simp [hxi]) k hk
 have : fs.toList[i]? = some f := by simpa using hi
 simp [this]
structure Tm where
 v : ByteArray
 x : V
def Tm.cells (t : Tm) : List Value := [.string t.v, .int .i8 t.x.k, .int .i64 t.x.n, .string t.x.s]
def Tm.ok (t : Tm) : Prop := t.v.size ≤ 140737488351232 ∧ t.x.ok
def RTm (_ : World) (cs : List Value) (t : Tm) : Prop := cs = t.cells ∧ t.ok
theorem RTm.stays : Stays RTm := fun _ _ _ _ _ h => h
inductive Ex where
 | mk (op : Int) (t : Tm) (kids : List Ex)
def RE : Nat → World → List Value → Ex → Prop
 | 0, _, _, _ => False
 | n + 1, w, cs, .mk op t kids => ∃ kv, cs = [.int .i8 op, .string t.v, .int .i8 t.x.k, .int .i64 t.x.n, .string t.x.s, kv] ∧ (Lit.int .i8 op).wf = true ∧ t.ok ∧ SlRep 6 1759218604441 (RE n) w kv kids
theorem RE.stays : ∀ n, Stays (RE n)
 | 0 => fun _ _ _ _ _ h => h
 | n + 1 => fun w w' cs x hf h => by
  obtain ⟨op, t, kids⟩ := x
  obtain ⟨kv, h1, h2, h3, h4⟩ := h
  exact ⟨kv, h1, h2, h3, h4.fut (RE.stays n) hf⟩
theorem RE.mono : ∀ {n m : Nat} (_ : n ≤ m) {w : World} {cs : List Value} {x : Ex}, RE n w cs x → RE m w cs x
 | 0, _, _, _, _, _, h => h.elim
 | n + 1, m, hm, w, cs, x, h => by
  obtain ⟨op, t, kids⟩ := x
  obtain ⟨m', rfl⟩ : ∃ m', m = m' + 1 := ⟨m - 1, by omega⟩
  obtain ⟨kv, h1, h2, h3, h4⟩ := h
  exact ⟨kv, h1, h2, h3, h4.imp fun cs x hx => RE.mono (by omega) hx⟩
def RX (w : World) (cs : List Value) (x : Ex) : Prop := ∃ n, RE n w cs x
theorem RX.stays : Stays RX := fun _ _ _ _ hf ⟨n, h⟩ => ⟨n, RE.stays n _ _ _ _ hf h⟩
structure Lt where
 k : Int
 p : ByteArray
 a : List Tm
 r : Int
 l : Ex
 d : Ex
def RLt (w : World) (cs : List Value) (x : Lt) : Prop :=
 ∃ av cl cd, cs = .int .i8 x.k :: .string x.p :: av :: .int .i8 x.r :: (cl ++ cd) ∧ cl.length = 6 ∧ cd.length = 6 ∧ (Lit.int .i8 x.k).wf = true ∧ (Lit.int .i8 x.r).wf = true ∧ x.p.size ≤ 140737488351232 ∧ SlRep 4 2932031007402 RTm w av x.a ∧ RX w cl x.l ∧ RX w cd x.d
theorem RLt.stays : Stays RLt := fun _ _ _ _ hf ⟨av, cl, cd, h1, h2, h3, h4, h5, h6, h7, h8, h9⟩ => ⟨av, cl, cd, h1, h2, h3, h4, h5, h6, h7.fut RTm.stays hf, RX.stays _ _ _ _ hf h8, RX.stays _ _ _ _ hf h9⟩
structure Ar where
 g : Int
 t : Tm
def RAr (_ : World) (cs : List Value) (x : Ar) : Prop := cs = .int .i8 x.g :: x.t.cells ∧ (Lit.int .i8 x.g).wf = true ∧ x.t.ok
theorem RAr.stays : Stays RAr := fun _ _ _ _ _ h => h
structure Ru where
 p : ByteArray
 h : List Ar
 b : List Lt
def RRu (w : World) (cs : List Value) (x : Ru) : Prop := ∃ hv bv, cs = [.string x.p, hv, bv] ∧ x.p.size ≤ 140737488351232 ∧ SlRep 5 2513169434916 RAr w hv x.h ∧ SlRep 16 651562446089 RLt w bv x.b
theorem RRu.stays : Stays RRu := fun _ _ _ _ hf ⟨hv, bv, h1, h2, h3, h4⟩ => ⟨hv, bv, h1, h2, h3.fut RAr.stays hf, h4.fut RLt.stays hf⟩
set_option maxRecDepth 10000
theorem cS : Tryz.prog.cellsOf 9 = 1 := by kernel_rfl
theorem cVal : Tryz.prog.cellsOf 112 = 3 := by kernel_rfl
theorem cTm : Tryz.prog.cellsOf 114 = 4 := by kernel_rfl
theorem cEx : Tryz.prog.cellsOf 117 = 6 := by kernel_rfl
theorem cAt : Tryz.prog.cellsOf 107 = 2 := by kernel_rfl
theorem cLt : Tryz.prog.cellsOf 119 = 16 := by kernel_rfl
theorem cAr : Tryz.prog.cellsOf 148 = 5 := by kernel_rfl
theorem cRu : Tryz.prog.cellsOf 80 = 3 := by kernel_rfl
theorem cOp : Tryz.prog.cellsOf 109 = 1 := by kernel_rfl
theorem cLk : Tryz.prog.cellsOf 104 = 1 := by kernel_rfl
theorem cRl : Tryz.prog.cellsOf 108 = 1 := by kernel_rfl
theorem cAg : Tryz.prog.cellsOf 146 = 1 := by kernel_rfl
theorem cEs : Tryz.prog.cellsOf 115 = 1 := by kernel_rfl
theorem cTs : Tryz.prog.cellsOf 105 = 1 := by kernel_rfl
theorem cAs : Tryz.prog.cellsOf 77 = 1 := by kernel_rfl
theorem cLs : Tryz.prog.cellsOf 78 = 1 := by kernel_rfl
theorem bEx : Tryz.prog.bytesOf 117 = 80 := by kernel_rfl
theorem bTm : Tryz.prog.bytesOf 114 = 48 := by kernel_rfl
theorem bLt : Tryz.prog.bytesOf 119 = 216 := by kernel_rfl
theorem bAr : Tryz.prog.bytesOf 148 = 56 := by kernel_rfl
theorem bRu : Tryz.prog.bytesOf 80 = 64 := by kernel_rfl
theorem field_at {α : Type} {P : Program} {f : Field} {R : World → List Value → α → Prop} {H : Type} {enc : TypeId × Value → H} {w : World} {base : Nat} {held : Bool} {t ty : TypeId} {fs : Array Field} {fuel o n : Nat} {cs : List Value} {x : DataW H × List MemPlace}
  (hs : P.underlying t = some (.struct fs)) (h : DataW.trod enc P w base (fun _ => true) held fuel t cs = some x) (hn : ∀ n ∈ x.1.weights P t, n ≤ reachBytes) (i : Nat) (hi : fs[i]? = some f) (ho : f.offset = o) (hty : f.type = ty) (hc : P.cellsOf ty = n) (hR : Reads P ty R) :
  ∃ d, R w ((cs.drop o).take n) d := by
 subst ho; subst hty; subst hc
 exact reads_field hs h hn i hi hR
theorem fieldD_at {α : Type} {P : Program} {f : Field} {R : World → List Value → α → Prop} {H : Type} {enc : TypeId × Value → H} {w : World} {base : Nat} {held : Bool} {t ty : TypeId} {fs : Array Field} {fuel o n : Nat} {cs : List Value} {x : DataW H × List MemPlace}
  (hs : P.underlying t = some (.struct fs)) (h : DataW.trod enc P w base (fun _ => true) held fuel t cs = some x) (hn : ∀ n ∈ x.1.weights P t, n ≤ reachBytes) (i : Nat) (hi : fs[i]? = some f) (ho : f.offset = o) (hty : f.type = ty) (hc : P.cellsOf ty = n) {k : Nat} (hk : SizeOf.sizeOf x.1 < k + 1) (hR : ReadsD k P ty R) :
  ∃ d, R w ((cs.drop o).take n) d := by
 subst ho; subst hty; subst hc
 exact readsD_field hs h hn i hi hk hR
theorem rTm : Reads Tryz.prog 114 RTm := by
 intro H enc w base held fuel cs x h hn
 have hs := Tryz.underlying114
 have hl := (reads_len hs h).trans cTm
 obtain ⟨s, e0, w0⟩ := field_at (o := 0) hs h hn 0 rfl rfl rfl cS (reads_string Tryz.underlying9)
 obtain ⟨v, e1, w1⟩ := field_at (o := 1) hs h hn 1 rfl rfl rfl cVal rV
 match cs, hl with
 | [a, b, c, d], _ =>
  simp [V.cells] at e0 e1
  exact ⟨⟨s, v⟩, by rw [e0, e1.1, e1.2.1, e1.2.2]; rfl, w0, w1⟩
theorem rExD : ∀ k, ReadsD k Tryz.prog 117 (RE k)
 | 0 => fun H enc w base held fuel cs x h hn hz => absurd hz (Nat.not_lt_zero _)
 | k + 1 => by
  intro H enc w base held fuel cs x h hn hz
  have hs := Tryz.underlying117
  have hl := (reads_len hs h).trans cEx
  obtain ⟨op, e0, w0⟩ := field_at (o := 0) hs h hn 0 rfl rfl rfl cOp (reads_int Tryz.underlying109)
  obtain ⟨t, e1, w1⟩ := field_at (o := 1) hs h hn 1 rfl rfl rfl cTm rTm
  obtain ⟨kids, kv, e2, w2⟩ := fieldD_at (o := 5) hs h hn 2 rfl rfl rfl cEs hz (readsD_slice (M := 1759218604441) Tryz.underlying115 cEx (by omega) (fun c hc => by rw [bEx] at hc; unfold reachBytes at hc; omega) (rExD k))
  match cs, hl with
  | [a, b, c, d, e, f], _ =>
   simp [Tm.cells] at e0 e1 e2
   exact ⟨.mk op t kids, kv, by rw [e0, e1.1, e1.2.1, e1.2.2.1, e1.2.2.2, e2], w0, w1, w2⟩
theorem rEx : Reads Tryz.prog 117 RX := reads_ofD rExD
theorem rLt : Reads Tryz.prog 119 RLt := by
 intro H enc w base held fuel cs x h hn
 have hs := Tryz.underlying119
 have hl := (reads_len hs h).trans cLt
 have rAt : Reads Tryz.prog 107 (fun w cs (d : ByteArray × List Tm) => ∃ av, cs = [.string d.1, av] ∧ d.1.size ≤ 140737488351232 ∧ SlRep 4 2932031007402 RTm w av d.2) := by
  intro H enc w base held fuel cs x h hn
  have hs := Tryz.underlying107
  have hl := (reads_len hs h).trans cAt
  obtain ⟨s, e0, w0⟩ := field_at (o := 0) hs h hn 0 rfl rfl rfl cS (reads_string Tryz.underlying9)
  obtain ⟨ts, v, e1, w1⟩ := field_at (o := 1) hs h hn 1 rfl rfl rfl cTs (reads_slice (M := 2932031007402) Tryz.underlying105 cTm (by omega) (fun c hc => by rw [bTm] at hc; unfold reachBytes at hc; omega) rTm)
  match cs, hl with
  | [a, b], _ =>
   simp at e0 e1
   exact ⟨(s, ts), v, by rw [e0, e1], w0, w1⟩
 obtain ⟨k, e0, w0⟩ := field_at (o := 0) hs h hn 0 rfl rfl rfl cLk (reads_int Tryz.underlying104)
 obtain ⟨⟨p, ts⟩, av, e1, w1, w1'⟩ := field_at (o := 1) hs h hn 1 rfl rfl rfl cAt rAt
 obtain ⟨r, e2, w2⟩ := field_at (o := 3) hs h hn 2 rfl rfl rfl cRl (reads_int Tryz.underlying108)
 obtain ⟨l, w3⟩ := field_at (o := 4) hs h hn 3 rfl rfl rfl cEx rEx
 obtain ⟨d, w4⟩ := field_at (o := 10) hs h hn 4 rfl rfl rfl cEx rEx
 match cs, hl with
 | [a0, a1, a2, a3, a4, a5, a6, a7, a8, a9, b0, b1, b2, b3, b4, b5], _ =>
  simp at e0 e1 e2 w3 w4
  exact ⟨⟨k, p, ts, r, l, d⟩, av, [a4, a5, a6, a7, a8, a9], [b0, b1, b2, b3, b4, b5], by rw [e0, e1.1, e1.2, e2]; rfl, rfl, rfl, w0, w2, w1, w1', w3, w4⟩
theorem rAr : Reads Tryz.prog 148 RAr := by
 intro H enc w base held fuel cs x h hn
 have hs := Tryz.underlying148
 have hl := (reads_len hs h).trans cAr
 obtain ⟨g, e0, w0⟩ := field_at (o := 0) hs h hn 0 rfl rfl rfl cAg (reads_int Tryz.underlying146)
 obtain ⟨t, e1, w1⟩ := field_at (o := 1) hs h hn 1 rfl rfl rfl cTm rTm
 match cs, hl with
 | [a, b, c, d, e], _ =>
  simp [Tm.cells] at e0 e1
  exact ⟨⟨g, t⟩, by rw [e0, e1.1, e1.2.1, e1.2.2.1, e1.2.2.2]; rfl, w0, w1⟩
theorem rRu : Reads Tryz.prog 80 RRu := by
 intro H enc w base held fuel cs x h hn
 have hs := Tryz.underlying80
 have hl := (reads_len hs h).trans cRu
 obtain ⟨p, e0, w0⟩ := field_at (o := 0) hs h hn 0 rfl rfl rfl cS (reads_string Tryz.underlying9)
 obtain ⟨hd, hv, e1, w1⟩ := field_at (o := 1) hs h hn 1 rfl rfl rfl cAs (reads_slice (M := 2513169434916) Tryz.underlying77 cAr (by omega) (fun c hc => by rw [bAr] at hc; unfold reachBytes at hc; omega) rAr)
 obtain ⟨bd, bv, e2, w2⟩ := field_at (o := 2) hs h hn 2 rfl rfl rfl cLs (reads_slice (M := 651562446089) Tryz.underlying78 cLt (by omega) (fun c hc => by rw [bLt] at hc; unfold reachBytes at hc; omega) rLt)
 match cs, hl with
 | [a, b, c], _ =>
  simp at e0 e1 e2
  exact ⟨⟨p, hd, bd⟩, hv, bv, by rw [e0, e1, e2], w0, w1, w2⟩
theorem rRus : Reads Tryz.prog 22 (SlR 3 2199023255552 RRu) :=
 reads_slice Tryz.underlying22 cRu (by omega) (fun c hc => by rw [bRu] at hc; unfold reachBytes at hc; omega) rRu
end Go.Proofs.YtdjffkkbjbiihaaGreatDoor
namespace Go.Proofs.YtdjffkkbjbiihaaGreatDoor
open Go.RowKit Go.WideMaps
section
variable {B : Nat} {w w' : World} {b pb mb : Nat} {lv : Value} {ar gone : Nat} {xs : List Rw} {S : Nat → Prop}
theorem OwnL.only {α : Type} {sz : Nat} {e : TypeId} {R : World → List Value → α → Prop} {v : Value} {ys : List α} (h : OwnL sz B e R w v ys) (hR : ∀ cs x, R w cs x → R w' cs x) (hg : Only S w w') (hne : ∀ k, v.ownBlock = some k → ¬ S k) : OwnL sz B e R w' v ys := by
 obtain ⟨css, h1, h2, h3, h4⟩ := h
 refine ⟨css, h1, fun i cs x hi hx => ⟨(h2 i cs x hi hx).1, hR _ _ (h2 i cs x hi hx).2⟩, h3, ?_⟩
 rcases h4 with h4 | ⟨g, cap, cur, a1, a2, a3, a4⟩
 ·exact .inl h4
 ·exact .inr ⟨g, cap, cur, a1, a2, hg.keeps a3 (hne g (by rw [a1]; rfl)), a4⟩
theorem cell_at {g : Nat} {cs : Array Value} {t : TypeId} {fr : Nat × Nat} (h : w.heap[g]? = some (.cells cs t fr)) (j : Nat) (v : Value) (hj : cs[j]? = some v) : w.cell? ⟨g, j, none⟩ = some v := by
 simp [World.cell?, h, hj]
theorem free_at {g : Nat} {cs : Array Value} {t : TypeId} (h : w.heap[g]? = some (.cells cs t (0, 0))) (j : Nat) : w.frozen? ⟨g, j, none⟩ = false := by
 simp [World.frozen?, h]
end
end Go.Proofs.YtdjffkkbjbiihaaGreatDoor
