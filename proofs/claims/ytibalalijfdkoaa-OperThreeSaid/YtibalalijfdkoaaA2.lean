/- The plane's functions at the words of whole numbers: finite, ends, Fine, Plain, Conj, Of, part, Parts, told, Add. -/
import Derived.Test.YtibalalijfdkoaaA1
import Derived.Test.YtibalalijfdkoaaF0
namespace Go.Proofs.Ytibalalijfdkoaa
open Go.ChangeShapes Go.WideShapes Go.ChangeAt Go.RowKit

theorem order_zero : (FloatKind.f64.format.order 0 0 == some Ordering.eq) = true := by decide
theorem sub_run {r : Nat} (h : Ieee.double.sub r r = some 0) (w : World) : (binOp .sub 73 (.float .f64 r) (.float .f64 r)).run Try.prog w = .ok (.float .f64 0) w :=
  run_float_arith w .sub 73 .f64 r r 0 h

theorem finite_any (r : Nat) (h : Ieee.double.sub r r = some 0) (w : World) : Calls Try.prog 72 #[.float .f64 r] w fun e w' => e = .returned (.bool true) ∧ w = w' := by
  have h1 := sub_run h
  have h0 := order_zero
  clear h
  go_enter Try.func72, Try.ntmps72
  go_wp2
  go_ret
  exact ⟨rfl, rfl⟩

theorem ends_any (r q : Nat) (h : Ieee.double.sub r r = some 0) (hq : Ieee.double.sub q q = some 0) (w : World) : Calls Try.prog 52 #[.complex .f64 r q] w fun e w' => e = .returned (.bool true) ∧ w = w' := by
  have H := Lib.hid h; have HQ := Lib.hid hq; clear h hq
  go_enter Try.func52, Try.ntmps52
  go_wp2_with fail
  refine (finite_any _ H.out _).mono ?_
  rintro e w' ⟨rfl, rfl⟩
  go_wp2_with fail
  refine (finite_any _ HQ.out _).mono ?_
  rintro e w' ⟨rfl, rfl⟩
  go_wp2
  go_ret
  exact ⟨rfl, rfl⟩

/-- A word that is fine: finite, and no nought with a sign. -/
def Okw (r : Nat) : Prop := Ieee.double.sub r r = some 0 ∧ (r = 0 ∨ (FloatKind.f64.format.order r 0 == some Ordering.eq) = false)
theorem okw_zero : Okw 0 := ⟨by decide, .inl rfl⟩
theorem okw_fl (n : Int) (h : n.natAbs < 2 ^ 53) : Okw (fl n) := by
  refine ⟨by have := sub_fl n n h h (by omega); rwa [Int.sub_self, fl_zero] at this, ?_⟩
  by_cases h0 : n = 0
  · subst h0; exact .inl fl_zero
  · right
    have := order_fl n 0 h (by omega)
    rw [fl_zero] at this
    show (Ieee.double.order (fl n) 0 == some Ordering.eq) = false
    rw [this]
    rcases Int.lt_or_gt_of_ne h0 with h | h
    · rw [Int.compare_eq_lt.2 h]; rfl
    · rw [Int.compare_eq_gt.2 h]; rfl

theorem bits_run (r : Nat) (w : World) : (callFunc 74 #[.float .f64 r]).run Try.prog w = .ok (.value (.int .u64 r)) w := by
  rw [run_callFunc_extern Try.func74 (by kernel_rfl) (by kernel_rfl) (by kernel_rfl) (e := Extern.MathFloatBits.float64bits) (by kernel_rfl)]; rfl

theorem signbit_zero (w : World) : Calls Try.prog 84 #[.float .f64 0] w fun e w' => e = .returned (.bool false) ∧ w = w' := by
  have hb := bits_run 0
  go_enter Try.func84, Try.ntmps84
  go_wp2
  go_ret
  exact ⟨rfl, rfl⟩

theorem fine_any (r q : Nat) (hr : Okw r) (hq : Okw q) (w : World) : Calls Try.prog 69 #[.complex .f64 r q] w fun e w' => e = .returned (.bool true) ∧ w = w' := by
  obtain ⟨h1, h2⟩ := hr
  obtain ⟨h3, h4⟩ := hq
  have H1 := Lib.hid h1; have H3 := Lib.hid h3; clear h1 h3
  have h0 := order_zero
  rcases h2 with rfl | h2 <;> rcases h4 with rfl | h4
  all_goals
    go_enter Try.func69, Try.ntmps69
    go_wp2_with (first | (go_at_call 52; refine (ends_any _ _ H1.out H3.out _).mono ?_; rintro e w' ⟨rfl, rfl⟩) | (go_at_call 84; refine (signbit_zero _).mono ?_; rintro e w' ⟨rfl, rfl⟩))
    go_ret
    exact ⟨rfl, rfl⟩

theorem plain_any (r : Nat) (hr : Okw r) (w : World) : Calls Try.prog 78 #[.float .f64 r] w fun e w' => e = .returned (.float .f64 r) ∧ w = w' := by
  obtain ⟨_, h2⟩ := hr
  have h0 := order_zero
  rcases h2 with rfl | h2
  all_goals
    go_enter Try.func78, Try.ntmps78
    go_wp2
    go_ret
    exact ⟨rfl, rfl⟩
theorem plain_neg0 (w : World) : Calls Try.prog 78 #[.float .f64 9223372036854775808] w fun e w' => e = .returned (.float .f64 0) ∧ w = w' := by
  have h0 : (FloatKind.f64.format.order 9223372036854775808 0 == some Ordering.eq) = true := by decide
  go_enter Try.func78, Try.ntmps78
  go_wp2
  go_ret
  exact ⟨rfl, rfl⟩

theorem Plain_any (r q : Nat) (hr : Okw r) (hq : Okw q) (w : World) : Calls Try.prog 59 #[.complex .f64 r q] w fun e w' => e = .returned (.complex .f64 r q) ∧ w = w' := by
  have H1 := Lib.hid hr; have H3 := Lib.hid hq; clear hr hq
  go_enter Try.func59, Try.ntmps59
  go_wp2_with fail
  refine (plain_any _ H1.out _).mono ?_
  rintro e w' ⟨rfl, rfl⟩
  go_wp2_with fail
  refine (plain_any _ H3.out _).mono ?_
  rintro e w' ⟨rfl, rfl⟩
  go_wp2
  go_ret
  exact ⟨rfl, rfl⟩
theorem Plain_neg0 (r : Nat) (hr : Okw r) (w : World) : Calls Try.prog 59 #[.complex .f64 r 9223372036854775808] w fun e w' => e = .returned (.complex .f64 r 0) ∧ w = w' := by
  have H1 := Lib.hid hr; clear hr
  go_enter Try.func59, Try.ntmps59
  go_wp2_with fail
  refine (plain_any _ H1.out _).mono ?_
  rintro e w' ⟨rfl, rfl⟩
  go_wp2_with fail
  refine (plain_neg0 _).mono ?_
  rintro e w' ⟨rfl, rfl⟩
  go_wp2
  go_ret
  exact ⟨rfl, rfl⟩

/-- value.Num of a fine number. -/
theorem num_any (r q : Nat) (hr : Okw r) (hq : Okw q) (w : World) : Calls Try.prog 48 #[.complex .f64 r q] w (MakesE 4 0 ⟨#[]⟩ r q w) := by
  have H1 := Lib.hid hr; have H3 := Lib.hid hq; clear hr hq
  go_enter Try.func48, Try.ntmps48
  go_wp2_with fail
  refine (Plain_any _ _ H1.out H3.out _).mono ?_
  rintro e w' ⟨rfl, rfl⟩
  go_wp2_with fail
  refine (fine_any _ _ H1.out H3.out _).mono ?_
  rintro e w' ⟨rfl, rfl⟩
  go_wp2
  go_ret2
  exact ⟨_, rfl, IsN.new' _ _ _ _ _ (by simp), by simp, by go_grown⟩
/-- oper.number. -/
theorem number_any (r q : Nat) (hr : Okw r) (hq : Okw q) (w : World) : Calls Try.prog 21 #[.complex .f64 r q] w (Makes 4 0 ⟨#[]⟩ r q w) := by
  have H1 := Lib.hid hr; have H3 := Lib.hid hq; clear hr hq
  go_enter Try.func21, Try.ntmps21
  go_wp2_with fail
  refine (num_any _ _ H1.out H3.out _).mono ?_
  rintro e w' ⟨b, rfl, hn, hb, hw⟩
  go_wp2
  go_ret
  exact ⟨b, rfl, hn, hb, hw⟩
end Go.Proofs.Ytibalalijfdkoaa
