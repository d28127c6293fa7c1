/- strconv.ParseUint's public form at two bytes; strconv.ParseInt; value.said. -/
import Derived.Test.YtlihkmldclocoaaDoorUint
import Derived.Test.YtlihkmldclocoaaDoorUnq
namespace Go.Proofs.YtlihkmldclocoaaDoor
open Go.RowKit
set_option linter.unusedSimpArgs false
set_option linter.unusedVariables false

/-- The library's two errors are laid. -/
def Errs (w : World) : Prop := (∃ tp p, w.var? Tryd.prog "strconv.ErrSyntax" = some #[.iface tp p]) ∧ (∃ tp p, w.var? Tryd.prog "strconv.ErrRange" = some #[.iface tp p])
theorem Errs.fut {w w' : World} (h : Errs w) (hf : Fut w w') : Errs w' := by
  obtain ⟨⟨a, b, h1⟩, c, d, h2⟩ := h
  exact ⟨⟨a, b, var_fut h1 hf⟩, c, d, var_fut h2 hf⟩
theorem Errs.syn {w : World} (h : Errs w) : ∃ tp p, w.cell? ⟨2, 0, none⟩ = some (.iface tp p) := by
  obtain ⟨⟨a, b, h1⟩, _⟩ := h
  refine ⟨a, b, ?_⟩
  have := World.var?_cell (show Tryd.prog.globalNamed "strconv.ErrSyntax" = some 2 by kernel_rfl) h1 0
  simpa using this
theorem Errs.rng {w : World} (h : Errs w) : ∃ tp p, w.cell? ⟨3, 0, none⟩ = some (.iface tp p) := by
  obtain ⟨_, a, b, h1⟩ := h
  refine ⟨a, b, ?_⟩
  have := World.var?_cell (show Tryd.prog.globalNamed "strconv.ErrRange" = some 3 by kernel_rfl) h1 0
  simpa using this
theorem fut_bytes (w : World) (e : TypeId) (t : ByteArray) : Fut w (Lib.bytesWorld w e t) :=
  ⟨rfl, rfl, rfl, by rw [Lib.bytesWorld_size]; omega, fun j hj => Lib.bytesWorld_at_old w e t j hj⟩
/-- ParseInt, base 10, 64 bits. -/
theorem pint_any (s : ByteArray) (w : World) (hs : s.size ≤ 140737488351232) (hE : Errs w) :
    Calls Tryd.prog 46 #[.string s, .int .i64 10, .int .i64 64] w fun e w' =>
      ((∃ n, Lib.parseIntB 64 s.data.toList = .ok n ∧ e = .returned (.tuple #[.int .i64 n, .nilIface])) ∨ ((∀ n, Lib.parseIntB 64 s.data.toList ≠ .ok n) ∧ ∃ u te pe, e = .returned (.tuple #[.int .i64 u, .iface te pe]))) ∧ Fut w w' := by
  obtain ⟨t1, p1, c1⟩ := hE.syn
  obtain ⟨t2, p2, c2⟩ := hE.rng
  cases hp : Lib.parseIntB 64 s.data.toList with
  | ok n =>
    refine (Tryd.strconv_ParseInt_10_at64_ok s (by omega) n hp w).mono ?_
    rintro e w' ⟨rfl, h⟩
    refine ⟨.inl ⟨n, rfl, rfl⟩, ?_⟩
    rcases h with rfl | ⟨t, rfl⟩
    · exact Fut.refl _
    · exact fut_bytes _ _ _
  | «syntax» =>
    refine (Tryd.strconv_ParseInt_10_at64_syntax s (by omega) hp _ w c1 (.inr ⟨_, _, rfl⟩)).mono ?_
    rintro e w' ⟨N, rfl, _, _, h⟩
    exact ⟨.inr ⟨by simp, _, _, _, rfl⟩, h⟩
  | range =>
    refine (Tryd.strconv_ParseInt_10_at64_range s (by omega) hp _ w c2 (.inr ⟨_, _, rfl⟩)).mono ?_
    rintro e w' ⟨N, rfl, _, _, h⟩
    exact ⟨.inr ⟨by simp, _, _, _, rfl⟩, h⟩

set_option maxHeartbeats 1000000 in
theorem puint_any (t : ByteArray) (w : World) (h2 : t.size = 2) (hE : Errs w) :
    Calls Tryd.prog 81 #[.string t, .int .i64 16, .int .i64 8] w fun e w' =>
      ((∃ x y, hexv (t[0]'(by omega)) = some x ∧ hexv (t[1]'(by omega)) = some y ∧ e = .returned (.tuple #[.int .u64 (16 * x + y : Nat), .nilIface])) ∨ ((hexv (t[0]'(by omega)) = none ∨ hexv (t[1]'(by omega)) = none) ∧ ∃ te pe, e = .returned (.tuple #[.int .u64 0, .iface te pe]))) ∧ Fut w w' := by
  have HE := Lib.hid hE
  have HI := Lib.hid (iuint_any t w h2)
  go_enter Tryd.func81, Tryd.ntmps81
  go_wp2_with fail
  refine HI.out.mono ?_
  rintro e w1 ⟨⟨x, y, hx, hy, rfl⟩ | ⟨hn, rfl⟩, F1⟩
  · have HX := Lib.hid (And.intro hx hy)
    clear hx hy
    go_wp2
    exact bodyPost_ret (v := .tuple #[.int .u64 (16 * x + y : Nat), .nilIface]) (by simp [results, Tryd.results81, go_sem]) rfl ⟨.inl ⟨x, y, HX.out.1, HX.out.2, rfl⟩, F1⟩
  · have HN := Lib.hid hn
    clear hn
    obtain ⟨t1, p1, c1⟩ := (HE.out.fut F1).syn
    have HT := Lib.hid (Tryd.strconv_toError_syntax ⟨#[80, 97, 114, 115, 101, 85, 105, 110, 116]⟩ t 16 8 (.iface t1 p1) w1 (by omega) c1 (.inr ⟨_, _, rfl⟩))
    go_wp2_with fail
    refine HT.out.mono ?_
    rintro e w2 ⟨N, rfl, _, _, hb⟩
    have F2 : Fut w1 w2 := hb
    go_wp2
    exact bodyPost_ret (v := .tuple #[.int .u64 0, .iface 122 (.pointer (some ⟨N, 0, none⟩))]) (by simp [results, Tryd.results81, go_sem]) rfl ⟨.inr ⟨HN.out, _, _, rfl⟩, F1.trans F2⟩
end Go.Proofs.YtlihkmldclocoaaDoor
