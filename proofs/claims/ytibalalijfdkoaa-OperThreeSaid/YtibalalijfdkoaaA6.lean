/- value.right of the nodes that are met here. -/
import Derived.Test.YtibalalijfdkoaaA5
namespace Go.Proofs.Ytibalalijfdkoaa
open Go.ChangeShapes Go.WideShapes Go.ChangeAt Go.RowKit

/-- The nodes that are met here: a bool's, a whole number's, a text's, a complex number's. -/
def Nice (k i : Int) (s : ByteArray) (re im : Nat) : Prop :=
  (∃ b : Bool, k = 1 ∧ i = b.toNat ∧ s = ⟨#[]⟩ ∧ re = 0 ∧ im = 0) ∨ (k = 2 ∧ s = ⟨#[]⟩ ∧ re = 0 ∧ im = 0) ∨ (k = 3 ∧ i = 0 ∧ s.size ≤ 4095 ∧ re = 0 ∧ im = 0) ∨
  (k = 4 ∧ i = 0 ∧ s = ⟨#[]⟩ ∧ (Okw re ∧ Okw im) ∧ (FloatKind.f64.format.order re re == some Ordering.eq) = true ∧ (FloatKind.f64.format.order im im == some Ordering.eq) = true)
theorem Nice.bool (b : Bool) : Nice 1 b.toNat ⟨#[]⟩ 0 0 := .inl ⟨b, rfl, rfl, rfl, rfl, rfl⟩
theorem Nice.int (i : Int) : Nice 2 i ⟨#[]⟩ 0 0 := .inr (.inl ⟨rfl, rfl, rfl, rfl⟩)
theorem Nice.text (s : ByteArray) (h : s.size ≤ 4095) : Nice 3 0 s 0 0 := .inr (.inr (.inl ⟨rfl, rfl, h, rfl, rfl⟩))
theorem Nice.num (re im : Nat) (hr : Okw re) (hi : Okw im) (hr' : (FloatKind.f64.format.order re re == some Ordering.eq) = true) (hi' : (FloatKind.f64.format.order im im == some Ordering.eq) = true) : Nice 4 0 ⟨#[]⟩ re im :=
  .inr (.inr (.inr ⟨rfl, rfl, rfl, ⟨hr, hi⟩, hr', hi'⟩))

theorem order_self (n : Int) (h : n.natAbs < 2 ^ 53) : (FloatKind.f64.format.order (fl n) (fl n) == some Ordering.eq) = true := by
  show (Ieee.double.order (fl n) (fl n) == some Ordering.eq) = true
  rw [order_fl n n h h]; simp
theorem Nice.numOf (x y : Int) (hx : x.natAbs < 2 ^ 53) (hy : y.natAbs < 2 ^ 53) : Nice 4 0 ⟨#[]⟩ (fl x) (fl y) := .num _ _ (okw_fl x hx) (okw_fl y hy) (order_self x hx) (order_self y hy)

set_option maxRecDepth 100000 in
set_option maxHeartbeats 1000000 in
theorem right_any {k i : Int} {s : ByteArray} {re im : Nat} (h : Nice k i s re im) (w : World) :
    Calls Try.prog 61 #[.agg (nd k i s re im)] w fun e w' => e = .returned (.bool true) ∧ Below w.heap.size w w' := by
  have h0 := order_zero
  rcases h with ⟨b, rfl, rfl, rfl, rfl, rfl⟩ | ⟨rfl, rfl, rfl, rfl⟩ | ⟨rfl, rfl, h, rfl, rfl⟩ | ⟨rfl, rfl, rfl, ⟨hr, hi⟩, hr', hi'⟩
  · cases b
    all_goals
      go_enter Try.func61, Try.ntmps61
      go_wp2_with (go_at_call 69; refine (fine_any _ _ okw_zero okw_zero _).mono ?_; rintro e w' ⟨rfl, rfl⟩)
      go_ret
      exact ⟨rfl, by go_grown⟩
  · go_enter Try.func61, Try.ntmps61
    go_wp2_with (go_at_call 69; refine (fine_any _ _ okw_zero okw_zero _).mono ?_; rintro e w' ⟨rfl, rfl⟩)
    go_ret
    exact ⟨rfl, by go_grown⟩
  · clear h
    go_enter Try.func61, Try.ntmps61
    go_wp2_with (go_at_call 69; refine (fine_any _ _ okw_zero okw_zero _).mono ?_; rintro e w' ⟨rfl, rfl⟩)
    go_ret
    exact ⟨rfl, by go_grown⟩
  · have HR := Lib.hid hr; have HI := Lib.hid hi; clear hr hi
    go_enter Try.func61, Try.ntmps61
    go_wp2_with (go_at_call 69; refine (fine_any _ _ HR.out HI.out _).mono ?_; rintro e w' ⟨rfl, rfl⟩)
    go_ret
    exact ⟨rfl, by go_grown⟩
end Go.Proofs.Ytibalalijfdkoaa
