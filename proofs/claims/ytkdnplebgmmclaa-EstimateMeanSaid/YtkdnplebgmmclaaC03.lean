/- Shelf, Cmp, Vals, KeyV -/
import Derived.Shelf.Small.Bits
import Derived.Shelf.Small.Strs
import Derived.Shelf.Strconv.Itoa0
import Derived.Ground.SlgmProg
import Derived.Shelf.SortM.Plain
import Derived.Shelf.SortM.SortNone
import Derived.Test.YtkdnplebgmmclaaProg
import Derived.Test.YtkdnplebgmmclaaRows
import Derived.WalkKit
import Derived.WalkSpells
import Derived.WalkLawsBesides
import Derived.ProofKit
import Derived.Lib.Hide
import Derived.Deep.RegionWith
import Derived.Deep.QuietTactic
import Derived.BigQuiet
import Derived.DeepKeys4
import Derived.Test.YtkdnplebgmmclaaC02
/- Contracts of Go's library at this dump, out of the kit's shelf (lay-shelf.mjs, lay-plain.mjs), in plain words. -/
namespace Go.Proofs
open Go.Shelf
def Try.lays128_ren : Go.Shelf.Ren := ⟨fun | 128 => 87 | n => n, fun | 51 => 178 | 3 => 3 | 4 => 4 | 46 => 147 | 5 => 5 | 9 => 9 | n => n, fun | n => n⟩
theorem Try.lays128 : Go.Proofs.Lays.n128 Try.prog Try.lays128_ren := {
  mixed := by kernel_rfl
  f128 := Try.func87.trans (congrArg some (by kernel_rfl))
  t3 := Try.underlying3
  a3 := Try.isAgg3
  z3 := Try.sizeOf3
  v3 := Try.zeroValue3
  t4 := Try.underlying4
  a4 := Try.isAgg4
  z4 := Try.sizeOf4
  v4 := Try.zeroValue4
  t5 := Try.underlying5
  a5 := Try.isAgg5
  z5 := Try.sizeOf5
  v5 := Try.zeroValue5
  t9 := Try.underlying9
  a9 := Try.isAgg9
  z9 := Try.sizeOf9
  v9 := Try.zeroValue9
  t46 := Try.underlying147
  a46 := Try.isAgg147
  z46 := Try.sizeOf147
  v46 := Try.zeroValue147
  t51 := Try.underlying178
  a51 := Try.isAgg178
  z51 := Try.sizeOf178
  v51 := Try.zeroValue178 }

theorem Try.bits_Len32 (x : Int) (w : World) (h0 : 0 ≤ x) (h1 : x ≤ 4294967295) :
    Calls Try.prog 87 #[.int .u32 x] w fun e w' => e = .returned (.int .i64 (Lib.bitLen x.toNat)) ∧ w' = w := Any.bits_Len32 Try.lays128 x w h0 h1
def Try.lays125_ren : Go.Shelf.Ren := ⟨fun | 125 => 59 | 128 => 87 | 129 => 88 | n => n, fun | 46 => 147 | 3 => 3 | 51 => 178 | 53 => 180 | 4 => 4 | 5 => 5 | 9 => 9 | n => n, fun | n => n⟩
theorem Try.lays125 : Go.Proofs.Lays.n125 Try.prog Try.lays125_ren := {
  mixed := by kernel_rfl
  f125 := Try.func59.trans (congrArg some (by kernel_rfl))
  f128 := Try.func87.trans (congrArg some (by kernel_rfl))
  f129 := Try.func88.trans (congrArg some (by kernel_rfl))
  t3 := Try.underlying3
  a3 := Try.isAgg3
  z3 := Try.sizeOf3
  v3 := Try.zeroValue3
  t4 := Try.underlying4
  a4 := Try.isAgg4
  z4 := Try.sizeOf4
  v4 := Try.zeroValue4
  t5 := Try.underlying5
  a5 := Try.isAgg5
  z5 := Try.sizeOf5
  v5 := Try.zeroValue5
  t9 := Try.underlying9
  a9 := Try.isAgg9
  z9 := Try.sizeOf9
  v9 := Try.zeroValue9
  t46 := Try.underlying147
  a46 := Try.isAgg147
  z46 := Try.sizeOf147
  v46 := Try.zeroValue147
  t51 := Try.underlying178
  a51 := Try.isAgg178
  z51 := Try.sizeOf178
  v51 := Try.zeroValue178
  t53 := Try.underlying180
  a53 := Try.isAgg180
  z53 := Try.sizeOf180
  v53 := Try.zeroValue180 }

theorem Try.bits_Len (x : Int) (w : World) (h0 : 0 ≤ x) (h1 : x ≤ 18446744073709551615) :
    Calls Try.prog 59 #[.int .u64 x] w fun e w' => e = .returned (.int .i64 (Lib.bitLen x.toNat)) ∧ w' = w := Any.bits_Len Try.lays125 x w h0 h1
def Try.lays213_ren : Go.Shelf.Ren := ⟨fun | 213 => 89 | 265 => 114 | n => n, fun | 9 => 9 | 3 => 3 | n => n, fun | n => n⟩
theorem Try.lays213 : Go.Proofs.Lays.n213 Try.prog Try.lays213_ren := {
  mixed := by kernel_rfl
  f213 := Try.func89.trans (congrArg some (by kernel_rfl))
  f265 := Try.func114.trans (congrArg some (by kernel_rfl))
  t3 := Try.underlying3
  a3 := Try.isAgg3
  z3 := Try.sizeOf3
  v3 := Try.zeroValue3
  t9 := Try.underlying9
  a9 := Try.isAgg9
  z9 := Try.sizeOf9
  v9 := Try.zeroValue9 }
open Go.RowKit in

theorem Try.bytealg_CompareString (a b : ByteArray) (w : World) :
    Calls Try.prog 89 #[.string a, .string b] w fun e w' => e = .returned (.int .i64 (Lib.compareBytes a.data.toList b.data.toList)) ∧ w' = w := Any.bytealg_CompareString Try.lays213 a b w
def Try.lays106_ren : Go.Shelf.Ren := ⟨fun | 106 => 61 | 213 => 89 | 265 => 114 | n => n, fun | 9 => 9 | 3 => 3 | n => n, fun | n => n⟩
theorem Try.lays106 : Go.Proofs.Lays.n106 Try.prog Try.lays106_ren := {
  mixed := by kernel_rfl
  f106 := Try.func61.trans (congrArg some (by kernel_rfl))
  f213 := Try.func89.trans (congrArg some (by kernel_rfl))
  f265 := Try.func114.trans (congrArg some (by kernel_rfl))
  t3 := Try.underlying3
  a3 := Try.isAgg3
  z3 := Try.sizeOf3
  v3 := Try.zeroValue3
  t9 := Try.underlying9
  a9 := Try.isAgg9
  z9 := Try.sizeOf9
  v9 := Try.zeroValue9 }
open Go.RowKit in

theorem Try.strings_Compare (a b : ByteArray) (w : World) :
    Calls Try.prog 61 #[.string a, .string b] w fun e w' => e = .returned (.int .i64 (Lib.compareBytes a.data.toList b.data.toList)) ∧ w' = w := Any.strings_Compare Try.lays106 a b w
def Try.lays129_ren : Go.Shelf.Ren := ⟨fun | 129 => 88 | n => n, fun | 53 => 180 | 3 => 3 | 4 => 4 | 46 => 147 | 5 => 5 | 9 => 9 | n => n, fun | n => n⟩
theorem Try.lays129 : Go.Proofs.Lays.n129 Try.prog Try.lays129_ren := {
  mixed := by kernel_rfl
  f129 := Try.func88.trans (congrArg some (by kernel_rfl))
  t3 := Try.underlying3
  a3 := Try.isAgg3
  z3 := Try.sizeOf3
  v3 := Try.zeroValue3
  t4 := Try.underlying4
  a4 := Try.isAgg4
  z4 := Try.sizeOf4
  v4 := Try.zeroValue4
  t5 := Try.underlying5
  a5 := Try.isAgg5
  z5 := Try.sizeOf5
  v5 := Try.zeroValue5
  t9 := Try.underlying9
  a9 := Try.isAgg9
  z9 := Try.sizeOf9
  v9 := Try.zeroValue9
  t46 := Try.underlying147
  a46 := Try.isAgg147
  z46 := Try.sizeOf147
  v46 := Try.zeroValue147
  t53 := Try.underlying180
  a53 := Try.isAgg180
  z53 := Try.sizeOf180
  v53 := Try.zeroValue180 }

theorem Try.bits_Len64 (x : Int) (w : World) (h0 : 0 ≤ x) (h1 : x ≤ 18446744073709551615) :
    Calls Try.prog 88 #[.int .u64 x] w fun e w' => e = .returned (.int .i64 (Lib.bitLen x.toNat)) ∧ w' = w := Any.bits_Len64 Try.lays129 x w h0 h1
def Try.laysSlM6_f56_ren : Go.Shelf.Ren := ⟨fun | 6 => 56 | 8 => 59 | 9 => 78 | 19 => 87 | 20 => 88 | 21 => 100 | 22 => 101 | 23 => 102 | 24 => 103 | 25 => 104 | 26 => 105 | 27 => 106 | 28 => 107 | 29 => 108 | 36 => 121 | 31 => 110 | 32 => 111 | 37 => 122 | 38 => 123 | 39 => 124 | 41 => 132 | n => n, fun | 27 => 87 | 29 => 9 | 3 => 3 | 32 => 147 | 26 => 87 | 0 => 0 | 44 => 178 | 46 => 180 | 4 => 4 | 36 => 172 | 35 => 171 | 41 => 163 | 5 => 5 | 9 => 9 | 53 => 195 | 57 => 199 | 63 => 209 | 64 => 210 | n => n, fun | n => n⟩
theorem Try.laysSlM6_f56 : Go.Proofs.SlLaysM.n6 Try.prog Try.laysSlM6_f56_ren := {
  mixed := by kernel_rfl
  f6 := ⟨Try.f56.name, by decide, Try.func56.trans (congrArg some (by kernel_rfl))⟩
  f8 := Try.func59.trans (congrArg some (by kernel_rfl))
  f9 := ⟨Try.f78.name, by decide, Try.func78.trans (congrArg some (by kernel_rfl))⟩
  f19 := Try.func87.trans (congrArg some (by kernel_rfl))
  f20 := Try.func88.trans (congrArg some (by kernel_rfl))
  f21 := ⟨Try.f100.name, by decide, Try.func100.trans (congrArg some (by kernel_rfl))⟩
  f22 := ⟨Try.f101.name, by decide, Try.func101.trans (congrArg some (by kernel_rfl))⟩
  f23 := ⟨Try.f102.name, by decide, Try.func102.trans (congrArg some (by kernel_rfl))⟩
  f24 := ⟨Try.f103.name, by decide, Try.func103.trans (congrArg some (by kernel_rfl))⟩
  f25 := ⟨Try.f104.name, by decide, Try.func104.trans (congrArg some (by kernel_rfl))⟩
  f26 := ⟨Try.f105.name, by decide, Try.func105.trans (congrArg some (by kernel_rfl))⟩
  f27 := ⟨Try.f106.name, by decide, Try.func106.trans (congrArg some (by kernel_rfl))⟩
  f28 := ⟨Try.f107.name, by decide, Try.func107.trans (congrArg some (by kernel_rfl))⟩
  f29 := ⟨Try.f108.name, by decide, Try.func108.trans (congrArg some (by kernel_rfl))⟩
  f31 := Try.func110.trans (congrArg some (by kernel_rfl))
  f32 := Try.func111.trans (congrArg some (by kernel_rfl))
  f36 := ⟨Try.f121.name, by decide, Try.func121.trans (congrArg some (by kernel_rfl))⟩
  f37 := ⟨Try.f122.name, by decide, Try.func122.trans (congrArg some (by kernel_rfl))⟩
  f38 := ⟨Try.f123.name, by decide, Try.func123.trans (congrArg some (by kernel_rfl))⟩
  f39 := ⟨Try.f124.name, by decide, Try.func124.trans (congrArg some (by kernel_rfl))⟩
  f41 := ⟨Try.f132.name, by decide, Try.func132.trans (congrArg some (by kernel_rfl))⟩
  t0 := Try.underlying0
  a0 := Try.isAgg0
  z0 := Try.sizeOf0
  v0 := Try.zeroValue0
  t3 := Try.underlying3
  a3 := Try.isAgg3
  z3 := Try.sizeOf3
  v3 := Try.zeroValue3
  t4 := Try.underlying4
  a4 := Try.isAgg4
  z4 := Try.sizeOf4
  v4 := Try.zeroValue4
  t5 := Try.underlying5
  a5 := Try.isAgg5
  z5 := Try.sizeOf5
  v5 := Try.zeroValue5
  t9 := Try.underlying9
  a9 := Try.isAgg9
  z9 := Try.sizeOf9
  v9 := Try.zeroValue9
  t26 := Try.underlying87
  a26 := Try.isAgg87
  z26 := Try.sizeOf87
  v26 := Try.zeroValue87
  t27 := Try.underlying87
  a27 := Try.isAgg87
  z27 := Try.sizeOf87
  v27 := Try.zeroValue87
  t29 := Try.underlying9
  a29 := Try.isAgg9
  z29 := Try.sizeOf9
  v29 := Try.zeroValue9
  t32 := Try.underlying147
  a32 := Try.isAgg147
  z32 := Try.sizeOf147
  v32 := Try.zeroValue147
  t35 := Try.underlying171
  a35 := Try.isAgg171
  z35 := Try.sizeOf171
  v35 := Try.zeroValue171
  t36 := Try.underlying172
  a36 := Try.isAgg172
  z36 := Try.sizeOf172
  v36 := Try.zeroValue172
  t41 := Try.underlying163
  a41 := Try.isAgg163
  z41 := Try.sizeOf163
  v41 := Try.zeroValue163
  t44 := Try.underlying178
  a44 := Try.isAgg178
  z44 := Try.sizeOf178
  v44 := Try.zeroValue178
  t46 := Try.underlying180
  a46 := Try.isAgg180
  z46 := Try.sizeOf180
  v46 := Try.zeroValue180
  t53 := Try.underlying195
  a53 := Try.isAgg195
  z53 := Try.sizeOf195
  v53 := Try.zeroValue195
  t57 := Try.underlying199
  a57 := Try.isAgg199
  z57 := Try.sizeOf199
  v57 := Try.zeroValue199
  t63 := Try.underlying209
  a63 := Try.isAgg209
  z63 := Try.sizeOf209
  v63 := Try.zeroValue209
  t64 := Try.underlying210
  a64 := Try.isAgg210
  z64 := Try.sizeOf210
  v64 := Try.zeroValue210 }
open Go.Sort Go.RowKit in
theorem Try.slices_Sort_string (blk off cap : Nat) (ss : List (List UInt8)) (w : World) (hH : Holds encStr w blk off ss.toArray) (hblk : blk < w.heap.size) (hsz : ss.length < 4611686018427387904) :
    Calls Try.prog 56 #[.slice (some ⟨blk, off, none⟩) ss.length cap] w fun e w' =>
      e = .returned (.tuple #[]) ∧ ∃ n os, w' = grow (putRow encStr (Sort.ahead w n) blk off (ss.mergeSort fun x y => decide (x ≤ y)).toArray) os := AnyM.slices_Sort_string Try.laysSlM6_f56 blk off cap ss w hH hblk hsz
open Go.RowKit Go.Sort in

theorem Try.slices_Sort_string_none (p : Option Addr) (cap : Nat) (w : World) :
    Calls Try.prog 56 #[.slice p 0 cap] w fun e w' => e = .returned (.tuple #[]) ∧ w' = w := AnyM.slices_Sort_string_none Try.laysSlM6_f56 p cap w
end Go.Proofs
/- Comparisons: cmp.Compare, cmp.Or, value.Compare, the reference's Compare; value.Holds, the reference's Holds. -/
namespace Go.Proofs.Ytkdnplebgmmclaa
open Go.RowKit
set_option linter.unusedSimpArgs false
set_option linter.unusedVariables false

theorem cellsV : Try.prog.cellsOf 29 = 3 := by kernel_rfl
theorem bytesV : Try.prog.bytesOf 29 = 32 := by kernel_rfl
/-- What an api.Value reads as; a list of them. -/
theorem rV : Reads Try.prog 29 RV := reads_V Try.underlying29 (by kernel_rfl) Try.underlying27 Try.underlying2 Try.underlying9 rfl rfl rfl (by kernel_rfl) (by kernel_rfl) (by kernel_rfl)
theorem rVs : Reads Try.prog 31 (SlR 3 4398046510976 RV) := reads_slice Try.underlying31 cellsV (by omega) (fun c h => by rw [bytesV] at h; unfold reachBytes at h; omega) rV

/-- What a Check answers. -/
def chk (k n : Int) (s : ByteArray) : Int := if (k == 1) = true ∧ s.toList.isEmpty = true then 0 else if (k == 2) = true ∧ n = 0 ∧ s.size ≤ 200 then 0 else 10

set_option maxHeartbeats 400000 in
theorem check_any (k n : Int) (s : ByteArray) (w : World) (hs : s.size ≤ 140737488351232) :
    Calls Try.prog 18 #[.agg #[.int .i8 k, .int .i64 n, .string s]] w fun e w' => e = .returned (.int .i64 (chk k n s)) ∧ Fut w w' := by
  go_enter Try.func18, Try.ntmps18
  go_wp2
  all_goals go_ret
  all_goals refine ⟨?_, Fut.alloc _ _⟩
  all_goals (congr 2; unfold chk)
  all_goals simp_all
  all_goals omega
set_option maxHeartbeats 400000 in
theorem cmpKind_any (a b : Int) (w : World) : Calls Try.prog 115 #[.int .i8 a, .int .i8 b] w fun e w' => e = .returned (.int .i64 (cmpI a b)) ∧ w' = w := by
  rcases Int.lt_trichotomy a b with h | h | h
  · go_enter Try.func115, Try.ntmps115
    go_wp2
    go_ret
    exact ⟨by unfold cmpI; rw [if_pos h]; rfl, rfl⟩
  · subst h
    go_enter Try.func115, Try.ntmps115
    go_wp2
    go_ret
    exact ⟨by unfold cmpI; rw [if_neg (by omega), if_neg (by omega)]; rfl, rfl⟩
  · go_enter Try.func115, Try.ntmps115
    go_wp2
    go_ret
    exact ⟨by unfold cmpI; rw [if_neg (by omega), if_pos h]; rfl, rfl⟩
set_option maxHeartbeats 400000 in
theorem cmpI64_any (a b : Int) (w : World) : Calls Try.prog 116 #[.int .i64 a, .int .i64 b] w fun e w' => e = .returned (.int .i64 (cmpI a b)) ∧ w' = w := by
  rcases Int.lt_trichotomy a b with h | h | h
  · go_enter Try.func116, Try.ntmps116
    go_wp2
    go_ret
    exact ⟨by unfold cmpI; rw [if_pos h]; rfl, rfl⟩
  · subst h
    go_enter Try.func116, Try.ntmps116
    go_wp2
    go_ret
    exact ⟨by unfold cmpI; rw [if_neg (by omega), if_neg (by omega)]; rfl, rfl⟩
  · go_enter Try.func116, Try.ntmps116
    go_wp2
    go_ret
    exact ⟨by unfold cmpI; rw [if_neg (by omega), if_pos h]; rfl, rfl⟩

def firstNZ : List Int → Int
  | [] => 0
  | a :: r => if a ≠ 0 then a else firstNZ r
theorem firstNZ_drop (xs : List Int) (k : Nat) (h : ∀ i, i < k → xs.getD i 0 = 0) : firstNZ xs = firstNZ (xs.drop k) := by
  induction k generalizing xs with
  | zero => rfl
  | succ k ih =>
    cases xs with
    | nil => rfl
    | cons a r =>
      have h0 : a = 0 := by simpa using h 0 (by omega)
      rw [firstNZ, if_neg (by simpa using h0), List.drop_succ_cons]
      exact ih r fun i hi => by simpa using h (i + 1) (by omega)

set_option maxHeartbeats 400000 in
theorem or_any (v : Value) (xs : List Int) (w : World) (h : SlRep 1 17592186044416 RI w v xs) : Calls Try.prog 60 #[v] w fun e w' => e = .returned (.int .i64 (firstNZ xs)) ∧ w' = w := by
  obtain ⟨A, cap, rfl, hl, hm, hx⟩ := h
  go_enter Try.func60, Try.ntmps60
  go_wp2
  go_loop [8] (fun i => ∃ k : Nat, k ≤ xs.length ∧ i = .int .i64 k ∧ Hid (∀ i, i < k → xs.getD i 0 = 0)) (fun i => xs.length - (intOf i).toNat)
  case atStart => exact ⟨0, Nat.zero_le _, rfl, fun i hi => absurd hi (by omega)⟩
  case round =>
    obtain ⟨k, hk, rfl, hz⟩ := hrel
    by_cases hlt : k < xs.length
    · obtain ⟨b, off, cs, rfl, hcl, hc, rfl⟩ := hx k xs[k] (List.getElem?_eq_getElem hlt)
      have hcell := hc 0 _ rfl
      simp only [Nat.mul_one, Nat.add_zero] at hcell
      clear hc hx
      by_cases h0 : xs[k] = 0
      · have H0 := Lib.hid h0
        have h0' : (xs[k] != 0) = false := by simpa using h0
        clear h0
        go_wp2
        go_round
        case rel => exact ⟨k + 1, by omega, by go_num, fun i hi => by
          rcases Nat.lt_or_ge i k with h' | h'
          · exact hz.out i h'
          · obtain rfl : i = k := by omega
            simpa [List.getD, hlt] using H0.out⟩
        case measure => simp [intOf]; omega
      · have h0' : (xs[k] != 0) = true := by simpa using h0
        have H0 := Lib.hid h0
        clear h0
        go_wp2
        go_ret
        refine ⟨?_, rfl⟩
        rw [firstNZ_drop xs k hz.out, List.drop_eq_getElem_cons hlt, firstNZ, if_pos H0.out]
        rfl
    · obtain rfl : k = xs.length := by omega
      go_wp2
      go_ret
      refine ⟨?_, rfl⟩
      rw [firstNZ_drop xs _ hz.out, List.drop_length]; rfl

/-! ### The order of values -/
theorem cmpBytes_swap : ∀ a b : List UInt8, Lib.compareBytes b a = - Lib.compareBytes a b
  | [], [] => rfl
  | [], _ :: _ => rfl
  | _ :: _, [] => rfl
  | a :: r, b :: q => by
    simp only [Lib.compareBytes]
    by_cases h1 : a < b
    · have h2 : ¬ b < a := UInt8.not_lt.2 (UInt8.le_of_lt h1)
      simp [h1, h2]
    · by_cases h2 : b < a
      · simp [h1, h2]
      · simp only [h1, h2, if_false]; exact cmpBytes_swap r q
theorem cmpBytes_less : ∀ a b : List UInt8, Op.bytesLess a b = decide (Lib.compareBytes a b < 0)
  | [], [] => rfl
  | [], _ :: _ => rfl
  | _ :: _, [] => rfl
  | a :: r, b :: q => by
    simp only [Lib.compareBytes, Op.bytesLess]
    by_cases h1 : a < b
    · simp [h1]
    · by_cases h2 : b < a
      · have hne : ¬ a = b := fun e => by subst e; exact absurd h2 (UInt8.lt_irrefl _)
        simp [h1, h2, hne]
      · have he : a = b := UInt8.le_antisymm (UInt8.not_lt.1 h2) (UInt8.not_lt.1 h1)
        subst he
        simp [h1, cmpBytes_less r q]
theorem cmpBytes_zero : ∀ a b : List UInt8, Lib.compareBytes a b = 0 ↔ a = b
  | [], [] => by simp [Lib.compareBytes]
  | [], _ :: _ => by simp [Lib.compareBytes]
  | _ :: _, [] => by simp [Lib.compareBytes]
  | a :: r, b :: q => by
    simp only [Lib.compareBytes]
    by_cases h1 : a < b
    · have hne : ¬ a = b := fun e => by subst e; exact absurd h1 (UInt8.lt_irrefl _)
      simp [h1, hne]
    · by_cases h2 : b < a
      · have hne : ¬ a = b := fun e => by subst e; exact absurd h2 (UInt8.lt_irrefl _)
        simp [h1, h2, hne]
      · have he : a = b := UInt8.le_antisymm (UInt8.not_lt.1 h2) (UInt8.not_lt.1 h1)
        subst he
        simp [h1, cmpBytes_zero r q]
theorem cmpBytes_range : ∀ a b : List UInt8, Lib.compareBytes a b = -1 ∨ Lib.compareBytes a b = 0 ∨ Lib.compareBytes a b = 1
  | [], [] => by simp [Lib.compareBytes]
  | [], _ :: _ => by simp [Lib.compareBytes]
  | _ :: _, [] => by simp [Lib.compareBytes]
  | a :: r, b :: q => by
    simp only [Lib.compareBytes]
    by_cases h1 : a < b
    · simp [h1]
    · by_cases h2 : b < a
      · simp [h1, h2]
      · simp only [h1, h2, if_false]; exact cmpBytes_range r q

theorem bytesLess_irrefl (a : List UInt8) : Op.bytesLess a a = false := by rw [cmpBytes_less, (cmpBytes_zero a a).2 rfl]; rfl
def cmpS (a b : ByteArray) : Int := Lib.compareBytes a.data.toList b.data.toList
def cmpV (x y : V) : Int := firstNZ [cmpI x.k y.k, cmpI x.n y.n, cmpS x.s y.s]

set_option maxHeartbeats 400000 in
theorem compare_any (x y : V) (w : World) :
    Calls Try.prog 91 #[x.val, y.val] w fun e w' => e = .returned (.int .i64 (cmpV x y)) ∧ Fut w w' := by
  obtain ⟨k, n, s⟩ := x
  obtain ⟨k', n', s'⟩ := y
  unfold V.val
  go_enter Try.func91, Try.ntmps91
  go_wp2
  refine wp_graph 18 [.d, .d, .d, .d, .d, .d, .d, .d, .d, .d, .d, .d, .d, .d, .d, .r (fun v w => SlRep 1 17592186044416 RI w v [cmpI k k', cmpI n n', cmpS s s']), .d, .d] (by kernel_rfl) (by kernel_rfl) (by kernel_rfl) ?_
  simp only [List.take_succ_cons, List.take_zero, List.drop_succ_cons, List.drop_zero, Exs]
  iterate 17 apply Exists.intro
  apply Run.valG (wanted_none rfl _)
  · intro w1 h1 hk
    have cx_0_0 : w1.cell? ⟨w.heap.size, 0, none⟩ = some (.int .i8 k) := Fut.cell h1 (by first | exact c0_0_0 | go_simp)
    have cx_0_1 : w1.cell? ⟨w.heap.size, 1, none⟩ = some (.int .i64 n) := Fut.cell h1 (by first | exact c0_0_1 | go_simp)
    have cx_0_2 : w1.cell? ⟨w.heap.size, 2, none⟩ = some (.string s) := Fut.cell h1 (by first | exact c0_0_2 | go_simp)
    have cx_1_0 : w1.cell? ⟨w.heap.size + 1, 0, none⟩ = some (.int .i8 k') := Fut.cell h1 (by first | exact c0_1_0 | go_simp)
    have cx_1_1 : w1.cell? ⟨w.heap.size + 1, 1, none⟩ = some (.int .i64 n') := Fut.cell h1 (by first | exact c0_1_1 | go_simp)
    have cx_1_2 : w1.cell? ⟨w.heap.size + 1, 2, none⟩ = some (.string s') := Fut.cell h1 (by first | exact c0_1_2 | go_simp)
    go_simp; rfl
  simp only [Act.put, List.setIfInBounds_toArray, List.set_cons_succ, List.set_cons_zero, List.nil_append, List.cons_append]
  apply Run.valG (wanted_none rfl _)
  · intro w1 h1 hk
    have cx_0_0 : w1.cell? ⟨w.heap.size, 0, none⟩ = some (.int .i8 k) := Fut.cell h1 (by first | exact c0_0_0 | go_simp)
    have cx_0_1 : w1.cell? ⟨w.heap.size, 1, none⟩ = some (.int .i64 n) := Fut.cell h1 (by first | exact c0_0_1 | go_simp)
    have cx_0_2 : w1.cell? ⟨w.heap.size, 2, none⟩ = some (.string s) := Fut.cell h1 (by first | exact c0_0_2 | go_simp)
    have cx_1_0 : w1.cell? ⟨w.heap.size + 1, 0, none⟩ = some (.int .i8 k') := Fut.cell h1 (by first | exact c0_1_0 | go_simp)
    have cx_1_1 : w1.cell? ⟨w.heap.size + 1, 1, none⟩ = some (.int .i64 n') := Fut.cell h1 (by first | exact c0_1_1 | go_simp)
    have cx_1_2 : w1.cell? ⟨w.heap.size + 1, 2, none⟩ = some (.string s') := Fut.cell h1 (by first | exact c0_1_2 | go_simp)
    go_simp; rfl
  simp only [Act.put, List.setIfInBounds_toArray, List.set_cons_succ, List.set_cons_zero, List.nil_append, List.cons_append]
  apply Run.valG (wanted_none rfl _)
  · intro w1 h1 hk
    have cx_0_0 : w1.cell? ⟨w.heap.size, 0, none⟩ = some (.int .i8 k) := Fut.cell h1 (by first | exact c0_0_0 | go_simp)
    have cx_0_1 : w1.cell? ⟨w.heap.size, 1, none⟩ = some (.int .i64 n) := Fut.cell h1 (by first | exact c0_0_1 | go_simp)
    have cx_0_2 : w1.cell? ⟨w.heap.size, 2, none⟩ = some (.string s) := Fut.cell h1 (by first | exact c0_0_2 | go_simp)
    have cx_1_0 : w1.cell? ⟨w.heap.size + 1, 0, none⟩ = some (.int .i8 k') := Fut.cell h1 (by first | exact c0_1_0 | go_simp)
    have cx_1_1 : w1.cell? ⟨w.heap.size + 1, 1, none⟩ = some (.int .i64 n') := Fut.cell h1 (by first | exact c0_1_1 | go_simp)
    have cx_1_2 : w1.cell? ⟨w.heap.size + 1, 2, none⟩ = some (.string s') := Fut.cell h1 (by first | exact c0_1_2 | go_simp)
    go_simp; rfl
  simp only [Act.put, List.setIfInBounds_toArray, List.set_cons_succ, List.set_cons_zero, List.nil_append, List.cons_append]
  apply Run.valG (wanted_none rfl _)
  · intro w1 h1 hk
    have cx_0_0 : w1.cell? ⟨w.heap.size, 0, none⟩ = some (.int .i8 k) := Fut.cell h1 (by first | exact c0_0_0 | go_simp)
    have cx_0_1 : w1.cell? ⟨w.heap.size, 1, none⟩ = some (.int .i64 n) := Fut.cell h1 (by first | exact c0_0_1 | go_simp)
    have cx_0_2 : w1.cell? ⟨w.heap.size, 2, none⟩ = some (.string s) := Fut.cell h1 (by first | exact c0_0_2 | go_simp)
    have cx_1_0 : w1.cell? ⟨w.heap.size + 1, 0, none⟩ = some (.int .i8 k') := Fut.cell h1 (by first | exact c0_1_0 | go_simp)
    have cx_1_1 : w1.cell? ⟨w.heap.size + 1, 1, none⟩ = some (.int .i64 n') := Fut.cell h1 (by first | exact c0_1_1 | go_simp)
    have cx_1_2 : w1.cell? ⟨w.heap.size + 1, 2, none⟩ = some (.string s') := Fut.cell h1 (by first | exact c0_1_2 | go_simp)
    go_simp; rfl
  simp only [Act.put, List.setIfInBounds_toArray, List.set_cons_succ, List.set_cons_zero, List.nil_append, List.cons_append]
  apply Run.call (wanted_none rfl _) (fun _ _ => by go_simp; exact ⟨rfl, rfl⟩)
  · intro w1 h1 hk
    have cx_0_0 : w1.cell? ⟨w.heap.size, 0, none⟩ = some (.int .i8 k) := Fut.cell h1 (by first | exact c0_0_0 | go_simp)
    have cx_0_1 : w1.cell? ⟨w.heap.size, 1, none⟩ = some (.int .i64 n) := Fut.cell h1 (by first | exact c0_0_1 | go_simp)
    have cx_0_2 : w1.cell? ⟨w.heap.size, 2, none⟩ = some (.string s) := Fut.cell h1 (by first | exact c0_0_2 | go_simp)
    have cx_1_0 : w1.cell? ⟨w.heap.size + 1, 0, none⟩ = some (.int .i8 k') := Fut.cell h1 (by first | exact c0_1_0 | go_simp)
    have cx_1_1 : w1.cell? ⟨w.heap.size + 1, 1, none⟩ = some (.int .i64 n') := Fut.cell h1 (by first | exact c0_1_1 | go_simp)
    have cx_1_2 : w1.cell? ⟨w.heap.size + 1, 2, none⟩ = some (.string s') := Fut.cell h1 (by first | exact c0_1_2 | go_simp)
    exact (cmpKind_any _ _ _).mono fun e w' ⟨h, hw⟩ => ⟨h, hw ▸ Fut.refl _⟩
  simp only [Act.put, List.setIfInBounds_toArray, List.set_cons_succ, List.set_cons_zero, List.nil_append, List.cons_append]
  apply Run.valG (wanted_none rfl _)
  · intro w1 h1 hk
    have cx_0_0 : w1.cell? ⟨w.heap.size, 0, none⟩ = some (.int .i8 k) := Fut.cell h1 (by first | exact c0_0_0 | go_simp)
    have cx_0_1 : w1.cell? ⟨w.heap.size, 1, none⟩ = some (.int .i64 n) := Fut.cell h1 (by first | exact c0_0_1 | go_simp)
    have cx_0_2 : w1.cell? ⟨w.heap.size, 2, none⟩ = some (.string s) := Fut.cell h1 (by first | exact c0_0_2 | go_simp)
    have cx_1_0 : w1.cell? ⟨w.heap.size + 1, 0, none⟩ = some (.int .i8 k') := Fut.cell h1 (by first | exact c0_1_0 | go_simp)
    have cx_1_1 : w1.cell? ⟨w.heap.size + 1, 1, none⟩ = some (.int .i64 n') := Fut.cell h1 (by first | exact c0_1_1 | go_simp)
    have cx_1_2 : w1.cell? ⟨w.heap.size + 1, 2, none⟩ = some (.string s') := Fut.cell h1 (by first | exact c0_1_2 | go_simp)
    go_simp; rfl
  simp only [Act.put, List.setIfInBounds_toArray, List.set_cons_succ, List.set_cons_zero, List.nil_append, List.cons_append]
  apply Run.valG (wanted_none rfl _)
  · intro w1 h1 hk
    have cx_0_0 : w1.cell? ⟨w.heap.size, 0, none⟩ = some (.int .i8 k) := Fut.cell h1 (by first | exact c0_0_0 | go_simp)
    have cx_0_1 : w1.cell? ⟨w.heap.size, 1, none⟩ = some (.int .i64 n) := Fut.cell h1 (by first | exact c0_0_1 | go_simp)
    have cx_0_2 : w1.cell? ⟨w.heap.size, 2, none⟩ = some (.string s) := Fut.cell h1 (by first | exact c0_0_2 | go_simp)
    have cx_1_0 : w1.cell? ⟨w.heap.size + 1, 0, none⟩ = some (.int .i8 k') := Fut.cell h1 (by first | exact c0_1_0 | go_simp)
    have cx_1_1 : w1.cell? ⟨w.heap.size + 1, 1, none⟩ = some (.int .i64 n') := Fut.cell h1 (by first | exact c0_1_1 | go_simp)
    have cx_1_2 : w1.cell? ⟨w.heap.size + 1, 2, none⟩ = some (.string s') := Fut.cell h1 (by first | exact c0_1_2 | go_simp)
    go_simp; rfl
  simp only [Act.put, List.setIfInBounds_toArray, List.set_cons_succ, List.set_cons_zero, List.nil_append, List.cons_append]
  apply Run.valG (wanted_none rfl _)
  · intro w1 h1 hk
    have cx_0_0 : w1.cell? ⟨w.heap.size, 0, none⟩ = some (.int .i8 k) := Fut.cell h1 (by first | exact c0_0_0 | go_simp)
    have cx_0_1 : w1.cell? ⟨w.heap.size, 1, none⟩ = some (.int .i64 n) := Fut.cell h1 (by first | exact c0_0_1 | go_simp)
    have cx_0_2 : w1.cell? ⟨w.heap.size, 2, none⟩ = some (.string s) := Fut.cell h1 (by first | exact c0_0_2 | go_simp)
    have cx_1_0 : w1.cell? ⟨w.heap.size + 1, 0, none⟩ = some (.int .i8 k') := Fut.cell h1 (by first | exact c0_1_0 | go_simp)
    have cx_1_1 : w1.cell? ⟨w.heap.size + 1, 1, none⟩ = some (.int .i64 n') := Fut.cell h1 (by first | exact c0_1_1 | go_simp)
    have cx_1_2 : w1.cell? ⟨w.heap.size + 1, 2, none⟩ = some (.string s') := Fut.cell h1 (by first | exact c0_1_2 | go_simp)
    go_simp; rfl
  simp only [Act.put, List.setIfInBounds_toArray, List.set_cons_succ, List.set_cons_zero, List.nil_append, List.cons_append]
  apply Run.valG (wanted_none rfl _)
  · intro w1 h1 hk
    have cx_0_0 : w1.cell? ⟨w.heap.size, 0, none⟩ = some (.int .i8 k) := Fut.cell h1 (by first | exact c0_0_0 | go_simp)
    have cx_0_1 : w1.cell? ⟨w.heap.size, 1, none⟩ = some (.int .i64 n) := Fut.cell h1 (by first | exact c0_0_1 | go_simp)
    have cx_0_2 : w1.cell? ⟨w.heap.size, 2, none⟩ = some (.string s) := Fut.cell h1 (by first | exact c0_0_2 | go_simp)
    have cx_1_0 : w1.cell? ⟨w.heap.size + 1, 0, none⟩ = some (.int .i8 k') := Fut.cell h1 (by first | exact c0_1_0 | go_simp)
    have cx_1_1 : w1.cell? ⟨w.heap.size + 1, 1, none⟩ = some (.int .i64 n') := Fut.cell h1 (by first | exact c0_1_1 | go_simp)
    have cx_1_2 : w1.cell? ⟨w.heap.size + 1, 2, none⟩ = some (.string s') := Fut.cell h1 (by first | exact c0_1_2 | go_simp)
    go_simp; rfl
  simp only [Act.put, List.setIfInBounds_toArray, List.set_cons_succ, List.set_cons_zero, List.nil_append, List.cons_append]
  apply Run.call (wanted_none rfl _) (fun _ _ => by go_simp; exact ⟨rfl, rfl⟩)
  · intro w1 h1 hk
    have cx_0_0 : w1.cell? ⟨w.heap.size, 0, none⟩ = some (.int .i8 k) := Fut.cell h1 (by first | exact c0_0_0 | go_simp)
    have cx_0_1 : w1.cell? ⟨w.heap.size, 1, none⟩ = some (.int .i64 n) := Fut.cell h1 (by first | exact c0_0_1 | go_simp)
    have cx_0_2 : w1.cell? ⟨w.heap.size, 2, none⟩ = some (.string s) := Fut.cell h1 (by first | exact c0_0_2 | go_simp)
    have cx_1_0 : w1.cell? ⟨w.heap.size + 1, 0, none⟩ = some (.int .i8 k') := Fut.cell h1 (by first | exact c0_1_0 | go_simp)
    have cx_1_1 : w1.cell? ⟨w.heap.size + 1, 1, none⟩ = some (.int .i64 n') := Fut.cell h1 (by first | exact c0_1_1 | go_simp)
    have cx_1_2 : w1.cell? ⟨w.heap.size + 1, 2, none⟩ = some (.string s') := Fut.cell h1 (by first | exact c0_1_2 | go_simp)
    exact (cmpI64_any _ _ _).mono fun e w' ⟨h, hw⟩ => ⟨h, hw ▸ Fut.refl _⟩
  simp only [Act.put, List.setIfInBounds_toArray, List.set_cons_succ, List.set_cons_zero, List.nil_append, List.cons_append]
  apply Run.valG (wanted_none rfl _)
  · intro w1 h1 hk
    have cx_0_0 : w1.cell? ⟨w.heap.size, 0, none⟩ = some (.int .i8 k) := Fut.cell h1 (by first | exact c0_0_0 | go_simp)
    have cx_0_1 : w1.cell? ⟨w.heap.size, 1, none⟩ = some (.int .i64 n) := Fut.cell h1 (by first | exact c0_0_1 | go_simp)
    have cx_0_2 : w1.cell? ⟨w.heap.size, 2, none⟩ = some (.string s) := Fut.cell h1 (by first | exact c0_0_2 | go_simp)
    have cx_1_0 : w1.cell? ⟨w.heap.size + 1, 0, none⟩ = some (.int .i8 k') := Fut.cell h1 (by first | exact c0_1_0 | go_simp)
    have cx_1_1 : w1.cell? ⟨w.heap.size + 1, 1, none⟩ = some (.int .i64 n') := Fut.cell h1 (by first | exact c0_1_1 | go_simp)
    have cx_1_2 : w1.cell? ⟨w.heap.size + 1, 2, none⟩ = some (.string s') := Fut.cell h1 (by first | exact c0_1_2 | go_simp)
    go_simp; rfl
  simp only [Act.put, List.setIfInBounds_toArray, List.set_cons_succ, List.set_cons_zero, List.nil_append, List.cons_append]
  apply Run.valG (wanted_none rfl _)
  · intro w1 h1 hk
    have cx_0_0 : w1.cell? ⟨w.heap.size, 0, none⟩ = some (.int .i8 k) := Fut.cell h1 (by first | exact c0_0_0 | go_simp)
    have cx_0_1 : w1.cell? ⟨w.heap.size, 1, none⟩ = some (.int .i64 n) := Fut.cell h1 (by first | exact c0_0_1 | go_simp)
    have cx_0_2 : w1.cell? ⟨w.heap.size, 2, none⟩ = some (.string s) := Fut.cell h1 (by first | exact c0_0_2 | go_simp)
    have cx_1_0 : w1.cell? ⟨w.heap.size + 1, 0, none⟩ = some (.int .i8 k') := Fut.cell h1 (by first | exact c0_1_0 | go_simp)
    have cx_1_1 : w1.cell? ⟨w.heap.size + 1, 1, none⟩ = some (.int .i64 n') := Fut.cell h1 (by first | exact c0_1_1 | go_simp)
    have cx_1_2 : w1.cell? ⟨w.heap.size + 1, 2, none⟩ = some (.string s') := Fut.cell h1 (by first | exact c0_1_2 | go_simp)
    go_simp; rfl
  simp only [Act.put, List.setIfInBounds_toArray, List.set_cons_succ, List.set_cons_zero, List.nil_append, List.cons_append]
  apply Run.valG (wanted_none rfl _)
  · intro w1 h1 hk
    have cx_0_0 : w1.cell? ⟨w.heap.size, 0, none⟩ = some (.int .i8 k) := Fut.cell h1 (by first | exact c0_0_0 | go_simp)
    have cx_0_1 : w1.cell? ⟨w.heap.size, 1, none⟩ = some (.int .i64 n) := Fut.cell h1 (by first | exact c0_0_1 | go_simp)
    have cx_0_2 : w1.cell? ⟨w.heap.size, 2, none⟩ = some (.string s) := Fut.cell h1 (by first | exact c0_0_2 | go_simp)
    have cx_1_0 : w1.cell? ⟨w.heap.size + 1, 0, none⟩ = some (.int .i8 k') := Fut.cell h1 (by first | exact c0_1_0 | go_simp)
    have cx_1_1 : w1.cell? ⟨w.heap.size + 1, 1, none⟩ = some (.int .i64 n') := Fut.cell h1 (by first | exact c0_1_1 | go_simp)
    have cx_1_2 : w1.cell? ⟨w.heap.size + 1, 2, none⟩ = some (.string s') := Fut.cell h1 (by first | exact c0_1_2 | go_simp)
    go_simp; rfl
  simp only [Act.put, List.setIfInBounds_toArray, List.set_cons_succ, List.set_cons_zero, List.nil_append, List.cons_append]
  apply Run.valG (wanted_none rfl _)
  · intro w1 h1 hk
    have cx_0_0 : w1.cell? ⟨w.heap.size, 0, none⟩ = some (.int .i8 k) := Fut.cell h1 (by first | exact c0_0_0 | go_simp)
    have cx_0_1 : w1.cell? ⟨w.heap.size, 1, none⟩ = some (.int .i64 n) := Fut.cell h1 (by first | exact c0_0_1 | go_simp)
    have cx_0_2 : w1.cell? ⟨w.heap.size, 2, none⟩ = some (.string s) := Fut.cell h1 (by first | exact c0_0_2 | go_simp)
    have cx_1_0 : w1.cell? ⟨w.heap.size + 1, 0, none⟩ = some (.int .i8 k') := Fut.cell h1 (by first | exact c0_1_0 | go_simp)
    have cx_1_1 : w1.cell? ⟨w.heap.size + 1, 1, none⟩ = some (.int .i64 n') := Fut.cell h1 (by first | exact c0_1_1 | go_simp)
    have cx_1_2 : w1.cell? ⟨w.heap.size + 1, 2, none⟩ = some (.string s') := Fut.cell h1 (by first | exact c0_1_2 | go_simp)
    go_simp; rfl
  simp only [Act.put, List.setIfInBounds_toArray, List.set_cons_succ, List.set_cons_zero, List.nil_append, List.cons_append]
  apply Run.call (wanted_none rfl _) (fun _ _ => by go_simp; exact ⟨rfl, rfl⟩)
  · intro w1 h1 hk
    have cx_0_0 : w1.cell? ⟨w.heap.size, 0, none⟩ = some (.int .i8 k) := Fut.cell h1 (by first | exact c0_0_0 | go_simp)
    have cx_0_1 : w1.cell? ⟨w.heap.size, 1, none⟩ = some (.int .i64 n) := Fut.cell h1 (by first | exact c0_0_1 | go_simp)
    have cx_0_2 : w1.cell? ⟨w.heap.size, 2, none⟩ = some (.string s) := Fut.cell h1 (by first | exact c0_0_2 | go_simp)
    have cx_1_0 : w1.cell? ⟨w.heap.size + 1, 0, none⟩ = some (.int .i8 k') := Fut.cell h1 (by first | exact c0_1_0 | go_simp)
    have cx_1_1 : w1.cell? ⟨w.heap.size + 1, 1, none⟩ = some (.int .i64 n') := Fut.cell h1 (by first | exact c0_1_1 | go_simp)
    have cx_1_2 : w1.cell? ⟨w.heap.size + 1, 2, none⟩ = some (.string s') := Fut.cell h1 (by first | exact c0_1_2 | go_simp)
    exact (Try.strings_Compare _ _ _).mono fun e w' ⟨h, hw⟩ => ⟨h, hw ▸ Fut.refl _⟩
  simp only [Act.put, List.setIfInBounds_toArray, List.set_cons_succ, List.set_cons_zero, List.nil_append, List.cons_append]
  apply Run.valR (wanted_none rfl _) (by intro v w w' hf hs; exact hs.fut RI.stays hf)
  · intro w1 h1 hk
    have cx_0_0 : w1.cell? ⟨w.heap.size, 0, none⟩ = some (.int .i8 k) := Fut.cell h1 (by first | exact c0_0_0 | go_simp)
    have cx_0_1 : w1.cell? ⟨w.heap.size, 1, none⟩ = some (.int .i64 n) := Fut.cell h1 (by first | exact c0_0_1 | go_simp)
    have cx_0_2 : w1.cell? ⟨w.heap.size, 2, none⟩ = some (.string s) := Fut.cell h1 (by first | exact c0_0_2 | go_simp)
    have cx_1_0 : w1.cell? ⟨w.heap.size + 1, 0, none⟩ = some (.int .i8 k') := Fut.cell h1 (by first | exact c0_1_0 | go_simp)
    have cx_1_1 : w1.cell? ⟨w.heap.size + 1, 1, none⟩ = some (.int .i64 n') := Fut.cell h1 (by first | exact c0_1_1 | go_simp)
    have cx_1_2 : w1.cell? ⟨w.heap.size + 1, 2, none⟩ = some (.string s') := Fut.cell h1 (by first | exact c0_1_2 | go_simp)
    go_simp; exact ⟨_, _, ⟨rfl, rfl⟩, Fut.alloc _ _, ints_new w1 _ [cmpI k k', cmpI n n', cmpS s s'] (by simp)⟩
  intro v15
  simp only [Act.put, List.setIfInBounds_toArray, List.set_cons_succ, List.set_cons_zero, List.nil_append, List.cons_append]
  apply Run.call (wanted_none rfl _) (fun _ _ => by go_simp; exact ⟨rfl, rfl⟩)
  · intro w1 h1 hk
    have f15 := Facts.get hk 0 rfl (by kernel_rfl)
    have cx_0_0 : w1.cell? ⟨w.heap.size, 0, none⟩ = some (.int .i8 k) := Fut.cell h1 (by first | exact c0_0_0 | go_simp)
    have cx_0_1 : w1.cell? ⟨w.heap.size, 1, none⟩ = some (.int .i64 n) := Fut.cell h1 (by first | exact c0_0_1 | go_simp)
    have cx_0_2 : w1.cell? ⟨w.heap.size, 2, none⟩ = some (.string s) := Fut.cell h1 (by first | exact c0_0_2 | go_simp)
    have cx_1_0 : w1.cell? ⟨w.heap.size + 1, 0, none⟩ = some (.int .i8 k') := Fut.cell h1 (by first | exact c0_1_0 | go_simp)
    have cx_1_1 : w1.cell? ⟨w.heap.size + 1, 1, none⟩ = some (.int .i64 n') := Fut.cell h1 (by first | exact c0_1_1 | go_simp)
    have cx_1_2 : w1.cell? ⟨w.heap.size + 1, 2, none⟩ = some (.string s') := Fut.cell h1 (by first | exact c0_1_2 | go_simp)
    exact (or_any _ _ _ f15).mono fun e w' ⟨h, hw⟩ => ⟨h, hw ▸ Fut.refl _⟩
  simp only [Act.put, List.setIfInBounds_toArray, List.set_cons_succ, List.set_cons_zero, List.nil_append, List.cons_append]
  apply Run.valG (wanted_none rfl _)
  · intro w1 h1 hk
    have cx_0_0 : w1.cell? ⟨w.heap.size, 0, none⟩ = some (.int .i8 k) := Fut.cell h1 (by first | exact c0_0_0 | go_simp)
    have cx_0_1 : w1.cell? ⟨w.heap.size, 1, none⟩ = some (.int .i64 n) := Fut.cell h1 (by first | exact c0_0_1 | go_simp)
    have cx_0_2 : w1.cell? ⟨w.heap.size, 2, none⟩ = some (.string s) := Fut.cell h1 (by first | exact c0_0_2 | go_simp)
    have cx_1_0 : w1.cell? ⟨w.heap.size + 1, 0, none⟩ = some (.int .i8 k') := Fut.cell h1 (by first | exact c0_1_0 | go_simp)
    have cx_1_1 : w1.cell? ⟨w.heap.size + 1, 1, none⟩ = some (.int .i64 n') := Fut.cell h1 (by first | exact c0_1_1 | go_simp)
    have cx_1_2 : w1.cell? ⟨w.heap.size + 1, 2, none⟩ = some (.string s') := Fut.cell h1 (by first | exact c0_1_2 | go_simp)
    go_simp; rfl
  simp only [Act.put, List.setIfInBounds_toArray, List.set_cons_succ, List.set_cons_zero, List.nil_append, List.cons_append]
  apply Run.done
  intro w2 h2 hk
  have c2_0_0 : w2.cell? ⟨w.heap.size, 0, none⟩ = some (.int .i8 k) := Fut.cell h2 (by first | exact c0_0_0 | go_simp)
  have c2_0_1 : w2.cell? ⟨w.heap.size, 1, none⟩ = some (.int .i64 n) := Fut.cell h2 (by first | exact c0_0_1 | go_simp)
  have c2_0_2 : w2.cell? ⟨w.heap.size, 2, none⟩ = some (.string s) := Fut.cell h2 (by first | exact c0_0_2 | go_simp)
  have c2_1_0 : w2.cell? ⟨w.heap.size + 1, 0, none⟩ = some (.int .i8 k') := Fut.cell h2 (by first | exact c0_1_0 | go_simp)
  have c2_1_1 : w2.cell? ⟨w.heap.size + 1, 1, none⟩ = some (.int .i64 n') := Fut.cell h2 (by first | exact c0_1_1 | go_simp)
  have c2_1_2 : w2.cell? ⟨w.heap.size + 1, 2, none⟩ = some (.string s') := Fut.cell h2 (by first | exact c0_1_2 | go_simp)
  obtain ⟨f15, _⟩ := hk
  go_wp2
  go_ret
  exact ⟨rfl, ((Fut.alloc _ _).trans (Fut.alloc _ _)).trans ((Fut.drew _).trans h2)⟩


theorem cmpV_spec (k n : Int) (s : ByteArray) (k' n' : Int) (s' : ByteArray) : cmpV ⟨k, n, s⟩ ⟨k', n', s'⟩ =
    if k < k' then -1 else if k' < k then 1 else if n < n' then -1 else if n' < n then 1 else if Op.bytesLess s.toList s'.toList = true then -1 else if s.toList = s'.toList then 0 else 1 := by
  rw [cmpBytes_less, ByteArray.toList_eq, ByteArray.toList_eq]
  unfold cmpV cmpI cmpS
  simp only [decide_eq_true_eq, firstNZ]
  by_cases h1 : k < k'
  · simp [h1]
  · by_cases h2 : k' < k
    · simp [h1, h2]
    · by_cases h3 : n < n'
      · simp [h1, h2, h3]
      · by_cases h4 : n' < n
        · simp [h1, h2, h3, h4]
        · simp only [h1, h2, h3, h4, if_false, ne_eq, not_true_eq_false, ite_self]
          rcases cmpBytes_range s.data.toList s'.data.toList with h | h | h
          · simp [h]
          · rw [(cmpBytes_zero _ _).1 h]; simp [(cmpBytes_zero s'.data.toList s'.data.toList).2 rfl]
          · have hne : ¬ s.data.toList = s'.data.toList := fun e => by rw [(cmpBytes_zero _ _).2 e] at h; cases h
            simp [h, hne]
def holdsV (r : Int) (x y : V) : Bool :=
  chk x.k x.n x.s == 0 && chk y.k y.n y.s == 0 && (if r = 1 then cmpV x y == 0 else if r = 2 then cmpV x y != 0 else if r = 3 then decide (cmpV x y < 0) else if r = 4 then decide (cmpV x y ≤ 0) else if r = 5 then decide (cmpV x y > 0) else if r = 6 then decide (cmpV x y ≥ 0) else false)

end Go.Proofs.Ytkdnplebgmmclaa
/- Lists of values: SameValues, TwinValues, LeftValues; the order of tuples, of the program and of the reference. -/
namespace Go.Proofs.Ytkdnplebgmmclaa
open Go.RowKit
set_option linter.unusedSimpArgs false
set_option linter.unusedVariables false

instance : DecidableEq V := fun x y =>
  if h : x.k = y.k ∧ x.n = y.n ∧ x.s.toList = y.s.toList then
    .isTrue (by obtain ⟨k, n, s⟩ := x; obtain ⟨k', n', s'⟩ := y; simp only at h; obtain ⟨rfl, rfl, h⟩ := h; rw [ByteArray.toList_eq, ByteArray.toList_eq] at h; rw [WideShapes.bytes_inj h])
  else .isFalse (fun e => h (by subst e; exact ⟨rfl, rfl, rfl⟩))
theorem V.eq_iff (x y : V) : x = y ↔ x.k = y.k ∧ x.n = y.n ∧ x.s.toList = y.s.toList :=
  ⟨fun e => by subst e; exact ⟨rfl, rfl, rfl⟩, fun h => by obtain ⟨k, n, s⟩ := x; obtain ⟨k', n', s'⟩ := y; simp only at h; obtain ⟨rfl, rfl, h⟩ := h; rw [ByteArray.toList_eq, ByteArray.toList_eq] at h; rw [WideShapes.bytes_inj h]⟩

/-- Two structs held against each other. -/
theorem exec_eqV {o : Oper} {a : Act} {X Y : Operand} (ho : o.op = .binOp .eql 29 X Y 29) (x y : V) (hx : a.eval X = x.val) (hy : a.eval Y = y.val) (w : World) :
    (execOp a.eval o).run Try.prog w = .ok (.value (.bool (decide (x = y)))) w := by
  obtain ⟨k, n, s⟩ := x
  obtain ⟨k', n', s'⟩ := y
  unfold execOp
  rw [ho]
  simp only [hx, hy, V.val]
  by_cases h1 : k = k'
  · by_cases h2 : n = n'
    · by_cases h3 : s.toList = s'.toList
      · have hd : decide ((⟨k, n, s⟩ : V) = ⟨k', n', s'⟩) = true := decide_eq_true ((V.eq_iff _ _).2 ⟨h1, h2, h3⟩)
        rw [hd]
        go_simp
      · have hd : decide ((⟨k, n, s⟩ : V) = ⟨k', n', s'⟩) = false := decide_eq_false fun e => h3 ((V.eq_iff _ _).1 e).2.2
        rw [hd]
        go_simp
    · have hd : decide ((⟨k, n, s⟩ : V) = ⟨k', n', s'⟩) = false := decide_eq_false fun e => h2 ((V.eq_iff _ _).1 e).2.1
      have h2' : (n == n') = false := by simpa using h2
      rw [hd]
      go_simp
  · have hd : decide ((⟨k, n, s⟩ : V) = ⟨k', n', s'⟩) = false := decide_eq_false fun e => h1 ((V.eq_iff _ _).1 e).1
    have h1' : (k == k') = false := by simpa using h1
    rw [hd]
    go_simp
theorem exec_neV {o : Oper} {a : Act} {X Y : Operand} (ho : o.op = .binOp .neq 29 X Y 29) (x y : V) (hx : a.eval X = x.val) (hy : a.eval Y = y.val) (w : World) :
    (execOp a.eval o).run Try.prog w = .ok (.value (.bool (!decide (x = y)))) w := by
  obtain ⟨k, n, s⟩ := x
  obtain ⟨k', n', s'⟩ := y
  unfold execOp
  rw [ho]
  simp only [hx, hy, V.val]
  by_cases h1 : k = k'
  · by_cases h2 : n = n'
    · by_cases h3 : s.toList = s'.toList
      · have hd : decide ((⟨k, n, s⟩ : V) = ⟨k', n', s'⟩) = true := decide_eq_true ((V.eq_iff _ _).2 ⟨h1, h2, h3⟩)
        rw [hd]
        go_simp
      · have hd : decide ((⟨k, n, s⟩ : V) = ⟨k', n', s'⟩) = false := decide_eq_false fun e => h3 ((V.eq_iff _ _).1 e).2.2
        rw [hd]
        go_simp
    · have hd : decide ((⟨k, n, s⟩ : V) = ⟨k', n', s'⟩) = false := decide_eq_false fun e => h2 ((V.eq_iff _ _).1 e).2.1
      have h2' : (n == n') = false := by simpa using h2
      rw [hd]
      go_simp
  · have hd : decide ((⟨k, n, s⟩ : V) = ⟨k', n', s'⟩) = false := decide_eq_false fun e => h1 ((V.eq_iff _ _).1 e).1
    have h1' : (k == k') = false := by simpa using h1
    rw [hd]
    go_simp

theorem Vals.at_ {w : World} {A : Option Addr} {n cap : Nat} {xs : List V} (h : Vals w (.slice A n cap) xs) {k : Nat} (hk : k < xs.length) :
    ∃ b off, A = some ⟨b, off, none⟩ ∧ (xs[k]).ok ∧ w.cell? ⟨b, off + k * 3, none⟩ = some (.int .i8 (xs[k]).k) ∧ w.cell? ⟨b, off + k * 3 + 1, none⟩ = some (.int .i64 (xs[k]).n) ∧ w.cell? ⟨b, off + k * 3 + 2, none⟩ = some (.string (xs[k]).s) := by
  obtain ⟨A', cap', hv, _, _, h3⟩ := h
  obtain ⟨b, off, cs, hA, hl, hc, hr, hok⟩ := h3 k _ (List.getElem?_eq_getElem hk)
  injection hv with hv _ _
  subst hr
  exact ⟨b, off, hv.trans hA, hok, hc 0 _ rfl, hc 1 _ rfl, hc 2 _ rfl⟩

theorem take_succ_eq {xs ys : List V} {k : Nat} (hx : k < xs.length) (hy : k < ys.length) (h : xs.take k = ys.take k) (he : xs[k] = ys[k]) : xs.take (k + 1) = ys.take (k + 1) := by
  rw [List.take_succ_eq_append_getElem hx, List.take_succ_eq_append_getElem hy, h, he]

/-! ### The order of tuples -/
def cmpT : List V → List V → Int
  | [], [] => 0
  | [], _ :: _ => -1
  | _ :: _, [] => 1
  | x :: r, y :: q => if cmpV x y ≠ 0 then cmpV x y else cmpT r q
theorem cmpT_drop : ∀ (k : Nat) (xs ys : List V), k ≤ xs.length → k ≤ ys.length → (∀ i (hi : i < k) (hx : i < xs.length) (hy : i < ys.length), cmpV xs[i] ys[i] = 0) → cmpT xs ys = cmpT (xs.drop k) (ys.drop k)
  | 0, _, _, _, _, _ => rfl
  | k + 1, [], _, h, _, _ => by simp at h
  | k + 1, _ :: _, [], _, h, _ => by simp at h
  | k + 1, x :: r, y :: q, h, h', hz => by
    have h0 : cmpV x y = 0 := hz 0 (by omega) (by simp) (by simp)
    rw [cmpT, if_neg (by rw [h0]; simp), List.drop_succ_cons, List.drop_succ_cons]
    refine cmpT_drop k r q (by simpa using h) (by simpa using h') fun i hi hx hy => ?_
    have := hz (i + 1) (by omega) (by simp; omega) (by simp; omega)
    simpa using this
theorem cmpT_step {xs ys : List V} {k : Nat} (hx : k < xs.length) (hy : k < ys.length) (hz : ∀ i (_ : i < k) (hx : i < xs.length) (hy : i < ys.length), cmpV xs[i] ys[i] = 0) (h : cmpV xs[k] ys[k] ≠ 0) : cmpT xs ys = cmpV xs[k] ys[k] := by
  rw [cmpT_drop k xs ys (by omega) (by omega) hz, List.drop_eq_getElem_cons hx, List.drop_eq_getElem_cons hy, cmpT, if_pos h]
theorem cmpT_end {xs ys : List V} {k : Nat} (hk : k = xs.length ∨ k = ys.length) (hx : k ≤ xs.length) (hy : k ≤ ys.length) (hz : ∀ i (_ : i < k) (hx : i < xs.length) (hy : i < ys.length), cmpV xs[i] ys[i] = 0) :
    cmpT xs ys = if xs.length < ys.length then -1 else if ys.length < xs.length then 1 else 0 := by
  rw [cmpT_drop k xs ys hx hy hz]
  rcases hk with rfl | rfl
  · rw [List.drop_length]
    rcases Nat.lt_or_ge xs.length ys.length with h | h
    · rw [if_pos h, List.drop_eq_getElem_cons h]; rfl
    · rw [if_neg (by omega), if_neg (by omega), List.drop_eq_nil_of_le h]; rfl
  · rw [List.drop_length]
    rcases Nat.lt_or_ge ys.length xs.length with h | h
    · rw [if_neg (by omega), if_pos h, List.drop_eq_getElem_cons h]; rfl
    · rw [if_neg (by omega), if_neg (by omega), List.drop_eq_nil_of_le h]; rfl

set_option maxHeartbeats 800000 in
theorem cmpFunc_any (a b : Value) (xs ys : List V) (w : World) (ha : Vals w a xs) (hb : Vals w b ys) :
    Calls Try.prog 90 #[a, b, .func (.func 91) #[] #[]] w fun e w' => e = .returned (.int .i64 (cmpT xs ys)) ∧ Fut w w' := by
  obtain ⟨A, cap, rfl, hl, hm⟩ := SlRep.form ha
  obtain ⟨B, cap', rfl, hl', hm'⟩ := SlRep.form hb
  go_enter Try.func90, Try.ntmps90
  go_wp2
  go_loopw [13] (fun i wr => ∃ k : Nat, k ≤ xs.length ∧ k ≤ ys.length ∧ i = .int .i64 k ∧ Hid (∀ i (_ : i < k) (hx : i < xs.length) (hy : i < ys.length), cmpV xs[i] ys[i] = 0) ∧ Hid (Fut w wr)) (fun i _ => xs.length - (intOf i).toNat)
  case atStart => exact ⟨0, Nat.zero_le _, Nat.zero_le _, rfl, fun i hi => absurd hi (by omega), Fut.refl w⟩
  case round =>
    obtain ⟨k, hk, hk', rfl, hz, hf⟩ := hrel
    by_cases hlt : k < xs.length
    · obtain ⟨b, off, rfl, _, x0, x1, x2⟩ := Vals.at_ (ha.fut RV.stays hf.out) hlt
      by_cases hlt' : k < ys.length
      · obtain ⟨b', off', rfl, _, y0, y1, y2⟩ := Vals.at_ (hb.fut RV.stays hf.out) hlt'
        have hb0 := lt_of_cell x0
        have hb0' := lt_of_cell y0
        simp only at hb0 hb0'
        by_cases he : cmpV xs[k] ys[k] = 0
        · have hd : (cmpV xs[k] ys[k] != 0) = false := by simpa using he
          have HE := Lib.hid he
          clear he
          go_wp2_with fail
          refine (compare_any xs[k] ys[k] _).mono ?_
          rintro e w1 ⟨rfl, h1⟩
          go_wp2
          go_roundw
          case rel => exact ⟨k + 1, by omega, by omega, by go_num, fun i hi hx hy => by
            rcases Nat.lt_or_ge i k with h' | h'
            · exact hz.out i h' hx hy
            · obtain rfl : i = k := by omega
              exact HE.out, hf.out.trans (((Fut.alloc _ _).trans (Fut.alloc _ _)).trans h1)⟩
          case measure => simp [intOf]; omega
        · have hd : (cmpV xs[k] ys[k] != 0) = true := by simpa using he
          have HE := Lib.hid he
          clear he
          go_wp2_with fail
          refine (compare_any xs[k] ys[k] _).mono ?_
          rintro e w1 ⟨rfl, h1⟩
          go_wp2
          go_ret
          refine ⟨?_, hf.out.trans (((Fut.alloc _ _).trans (Fut.alloc _ _)).trans h1)⟩
          rw [cmpT_step hlt hlt' hz.out HE.out]
          rfl
      · have hkl := Lib.hid (cmpT_end (k := k) (xs := xs) (ys := ys) (.inr (by omega)) hk hk' hz.out)
        go_wp2
        go_ret
        refine ⟨?_, hf.out.trans (Fut.alloc _ _)⟩
        rw [hkl.out, if_neg (by omega), if_pos (by omega)]
        rfl
    · have hkl := Lib.hid (cmpT_end (k := k) (xs := xs) (ys := ys) (.inl (by omega)) hk hk' hz.out)
      go_wp2
      all_goals go_ret
      all_goals refine ⟨?_, hf.out⟩
      all_goals first | (rw [hkl.out, if_pos (by omega)]; rfl) | (rw [hkl.out, if_neg (by omega), if_pos (by omega)]; rfl) | (rw [hkl.out, if_neg (by omega), if_neg (by omega)]; rfl)
set_option maxHeartbeats 400000 in
theorem cmpT_any (a b : Value) (xs ys : List V) (w : World) (ha : Vals w a xs) (hb : Vals w b ys) :
    Calls Try.prog 62 #[a, b] w fun e w' => e = .returned (.int .i64 (cmpT xs ys)) ∧ Fut w w' := by
  go_enter Try.func62, Try.ntmps62
  go_wp2_with fail
  refine (cmpFunc_any a b xs ys _ ha hb).mono ?_
  rintro e w1 ⟨rfl, h1⟩
  go_wp2
  go_ret
  exact ⟨rfl, h1⟩

end Go.Proofs.Ytkdnplebgmmclaa
/- Values (api.Value) and texts as keys of maps. -/
namespace Go.Proofs.Ytkdnplebgmmclaa
open Go.RowKit Go.WideMaps Go.Maps
set_option linter.unusedSimpArgs false
set_option linter.unusedVariables false

def strV (s : ByteArray) : Value := .string s
theorem keyStr : KeyOn Try.prog 9 strV (fun s => s.size ≤ maxLen) where
  law := string_keyed Try.underlying9
  lit x hx := ⟨.string x.data.toList, by simp [keyOf, Try.underlying9, strV, mapKey, hx]⟩
  inj x y h := by injection h
theorem typesV : ∃ m, Try.prog.types.size = m + 1 := ⟨Try.prog.types.size - 1, by kernel_rfl⟩
theorem keyTypeV : Try.prog.keyType 29 = true := by kernel_rfl
theorem laidV : laidOutB Try.prog = true := by kernel_rfl
theorem lawV : KeyLaw Try.prog 29 :=
  deep_law_laid laidV (m := 2) (by omega) (of_decide_eq_true (by kernel_rfl)) (by kernel_rfl) (by rw [Try.underlying29])
theorem keyOf_V3 {P : Program} {k : TypeId} {f0 f1 f2 : Field} (hu : P.underlying k = some (.struct #[f0, f1, f2])) (hkt : P.keyType k = true) (hsz : ∃ m, P.types.size = m + 1) (hC : P.cellsOf k = 3)
    (n0 : (f0.name != "_") = true) (n1 : (f1.name != "_") = true) (n2 : (f2.name != "_") = true) (u0 : P.underlying f0.type = some (.int .i8)) (u1 : P.underlying f1.type = some (.int .i64)) (u2 : P.underlying f2.type = some .string)
    (o0 : f0.offset = 0) (o1 : f1.offset = 1) (o2 : f2.offset = 2) (c0 : P.cellsOf f0.type = 1) (c1 : P.cellsOf f1.type = 1) (c2 : P.cellsOf f2.type = 1) (x : V) (hx : x.ok) :
    keyOf P k x.val = some (.string (keyBytes [Lit.int .i8 x.k, Lit.int .i64 x.n, Lit.string x.s.data.toList])) := by
  obtain ⟨m0, hm0⟩ := hsz
  have h0 := hx.1
  have h1 := hx.2.1
  have h2 : x.s.size ≤ maxLen := Nat.le_trans hx.2.2 (by unfold maxLen; omega)
  unfold keyOf V.val
  simp [hu, hkt, Value.formed, Value.cells, hm0, Program.keyLits, hC, c0, c1, c2, u0, u1, u2, o0, o1, o2, n0, n1, n2, h0, h1, h2]
theorem keyV_lit (x : V) (hx : x.ok) : ∃ l, keyOf Try.prog 29 x.val = some l :=
  ⟨_, keyOf_V3 Try.underlying29 keyTypeV typesV (by kernel_rfl) (by decide) (by decide) (by decide) Try.underlying27 Try.underlying2 Try.underlying9 rfl rfl rfl (by kernel_rfl) (by kernel_rfl) (by kernel_rfl) x hx⟩
theorem keyV : KeyOn Try.prog 29 V.val V.ok where
  law := Keyed.of_law lawV
  lit := keyV_lit
  inj x y h := by
    obtain ⟨a, b, c⟩ := x
    obtain ⟨a', b', c'⟩ := y
    simp [V.val] at h
    obtain ⟨rfl, rfl, rfl⟩ := h
    rfl
end Go.Proofs.Ytkdnplebgmmclaa
