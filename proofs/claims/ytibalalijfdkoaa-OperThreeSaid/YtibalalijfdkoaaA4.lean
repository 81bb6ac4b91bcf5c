/- Comparing: cmp.Compare at its four types, strings.Compare, cmp.Or of six numbers. -/
import Derived.Test.YtibalalijfdkoaaA3
import Derived.Lib.Bytealg
namespace Go.Proofs.Ytibalalijfdkoaa
open Go.ChangeShapes Go.WideShapes Go.ChangeAt Go.RowKit

/-- What cmp.Compare answers of two whole numbers. -/
def cmpI (a b : Int) : Int := if a < b then -1 else if b < a then 1 else 0

theorem compare8 (a b : Int) (w : World) : Calls Try.prog 64 #[.int .u8 a, .int .u8 b] w fun e w' => e = .returned (.int .i64 (cmpI a b)) ∧ w = w' := by
  rcases Int.lt_trichotomy a b with h | h | h
  · have h2 : ¬ b < a := by omega
    have H := Lib.hid (show cmpI a b = -1 by unfold cmpI; rw [if_pos h])
    go_enter Try.func64, Try.ntmps64
    go_wp2
    go_ret
    exact ⟨by rw [H.out]; rfl, rfl⟩
  · subst h
    have H := Lib.hid (show cmpI a a = 0 by unfold cmpI; rw [if_neg (by omega), if_neg (by omega)])
    have h2 : ¬ a < a := by omega
    go_enter Try.func64, Try.ntmps64
    go_wp2
    go_ret
    exact ⟨by rw [H.out]; rfl, rfl⟩
  · have h2 : ¬ a < b := by omega
    have H := Lib.hid (show cmpI a b = 1 by unfold cmpI; rw [if_neg h2, if_pos h])
    go_enter Try.func64, Try.ntmps64
    go_wp2
    go_ret
    exact ⟨by rw [H.out]; rfl, rfl⟩

theorem compareI (a b : Int) (w : World) : Calls Try.prog 65 #[.int .i64 a, .int .i64 b] w fun e w' => e = .returned (.int .i64 (cmpI a b)) ∧ w = w' := by
  rcases Int.lt_trichotomy a b with h | h | h
  · have h2 : ¬ b < a := by omega
    have H := Lib.hid (show cmpI a b = -1 by unfold cmpI; rw [if_pos h])
    go_enter Try.func65, Try.ntmps65
    go_wp2
    go_ret
    exact ⟨by rw [H.out]; rfl, rfl⟩
  · subst h
    have H := Lib.hid (show cmpI a a = 0 by unfold cmpI; rw [if_neg (by omega), if_neg (by omega)])
    have h2 : ¬ a < a := by omega
    go_enter Try.func65, Try.ntmps65
    go_wp2
    go_ret
    exact ⟨by rw [H.out]; rfl, rfl⟩
  · have h2 : ¬ a < b := by omega
    have H := Lib.hid (show cmpI a b = 1 by unfold cmpI; rw [if_neg h2, if_pos h])
    go_enter Try.func65, Try.ntmps65
    go_wp2
    go_ret
    exact ⟨by rw [H.out]; rfl, rfl⟩

theorem compare64 (a b : Int) (w : World) : Calls Try.prog 66 #[.int .i64 a, .int .i64 b] w fun e w' => e = .returned (.int .i64 (cmpI a b)) ∧ w = w' := by
  rcases Int.lt_trichotomy a b with h | h | h
  · have h2 : ¬ b < a := by omega
    have H := Lib.hid (show cmpI a b = -1 by unfold cmpI; rw [if_pos h])
    go_enter Try.func66, Try.ntmps66
    go_wp2
    go_ret
    exact ⟨by rw [H.out]; rfl, rfl⟩
  · subst h
    have H := Lib.hid (show cmpI a a = 0 by unfold cmpI; rw [if_neg (by omega), if_neg (by omega)])
    have h2 : ¬ a < a := by omega
    go_enter Try.func66, Try.ntmps66
    go_wp2
    go_ret
    exact ⟨by rw [H.out]; rfl, rfl⟩
  · have h2 : ¬ a < b := by omega
    have H := Lib.hid (show cmpI a b = 1 by unfold cmpI; rw [if_neg h2, if_pos h])
    go_enter Try.func66, Try.ntmps66
    go_wp2
    go_ret
    exact ⟨by rw [H.out]; rfl, rfl⟩

theorem compareF (w : World) : Calls Try.prog 68 #[.float .f64 0, .float .f64 0] w fun e w' => e = .returned (.int .i64 0) ∧ w = w' := by
  have h1 : (FloatKind.f64.format.order 0 0 != some Ordering.eq) = false := by decide
  have h2 : (FloatKind.f64.format.order 0 0 == some Ordering.lt) = false := by decide
  have h3 : (FloatKind.f64.format.order 0 0 == some Ordering.gt) = false := by decide
  go_enter Try.func68, Try.ntmps68
  go_wp2
  go_ret
  exact ⟨rfl, rfl⟩

/-- What strings.Compare answers. -/
def cmpS (s t : ByteArray) : Int := Lib.compareBytes s.data.toList t.data.toList

theorem cmpstring_run (s t : ByteArray) (w : World) : (callFunc 87 #[.string s, .string t]).run Try.prog w = .ok (.value (.int .i64 (cmpS s t))) w := by
  rw [run_callFunc_extern Try.func87 (by kernel_rfl) (by kernel_rfl) (by kernel_rfl) (e := Extern.BytealgCompare.compare) (by kernel_rfl), Lib.run_compareString]; rfl

theorem compareS (s t : ByteArray) (w : World) : Calls Try.prog 67 #[.string s, .string t] w fun e w' => e = .returned (.int .i64 (cmpS s t)) ∧ w = w' := by
  have hb := cmpstring_run s t
  go_enter Try.func67, Try.ntmps67
  go_wp2
  go_ret
  exact ⟨rfl, rfl⟩

/-- cmp.Or of six numbers of which two may be other than 0. -/
def orOf (i s : Int) : Int := if i = 0 then s else i

theorem or_any (b : Nat) (i s : Int) (w : World) (h0 : w.cell? ⟨b, 0, none⟩ = some (.int .i64 0)) (h1 : w.cell? ⟨b, 1, none⟩ = some (.int .i64 0)) (h2 : w.cell? ⟨b, 2, none⟩ = some (.int .i64 i))
    (h3 : w.cell? ⟨b, 3, none⟩ = some (.int .i64 s)) (h4 : w.cell? ⟨b, 4, none⟩ = some (.int .i64 0)) (h5 : w.cell? ⟨b, 5, none⟩ = some (.int .i64 0)) :
    Calls Try.prog 63 #[.slice (some ⟨b, 0, none⟩) 6 6] w fun e w' => e = .returned (.int .i64 (orOf i s)) ∧ w = w' := by
  by_cases hi : i = 0
  · subst hi
    have H := Lib.hid (show orOf 0 s = s from rfl)
    by_cases hs : s = 0
    · subst hs
      go_enter Try.func63, Try.ntmps63
      go_wp2
      go_rounds 7
      go_ret
      exact ⟨rfl, rfl⟩
    · have hs' : (s != 0) = true := bne_iff_ne.2 hs
      clear hs
      go_enter Try.func63, Try.ntmps63
      go_wp2
      go_rounds 7
      go_ret
      exact ⟨by rw [H.out]; rfl, rfl⟩
  · have H := Lib.hid (show orOf i s = i from if_neg hi)
    have hi' : (i != 0) = true := bne_iff_ne.2 hi
    clear hi
    go_enter Try.func63, Try.ntmps63
    go_wp2
    go_rounds 7
    go_ret
    exact ⟨by rw [H.out]; rfl, rfl⟩
end Go.Proofs.Ytibalalijfdkoaa
