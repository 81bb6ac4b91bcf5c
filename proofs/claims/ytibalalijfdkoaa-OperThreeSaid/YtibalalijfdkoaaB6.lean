/- What the statement OperThree asks of an operator: its answer as a bool, at two whole numbers and at two texts. -/
import Derived.Test.YtibalalijfdkoaaB3
import Derived.Test.YtibalalijfdkoaaB4
import Derived.Test.YtibalalijfdkoaaB5
namespace Go.Proofs.Ytibalalijfdkoaa
open Go.ChangeShapes Go.WideShapes Go.ChangeAt Go.RowKit

theorem asked_of (op : Int) (v : Bool) (b1 b2 : Nat) (w : World) (h : Calls Try.prog 9 #[.int .u8 op, .slice (some ⟨b1, 0, none⟩) 1 1, .slice (some ⟨b2, 0, none⟩) 1 1] w (MakesE 1 v.toNat ⟨#[]⟩ 0 0 w)) :
    Calls Try.prog 7 #[.int .u8 op, .slice (some ⟨b1, 0, none⟩) 1 1, .slice (some ⟨b2, 0, none⟩) 1 1] w fun e w' => e = .returned (.tuple #[.bool v, .bool true]) ∧ Below w.heap.size w w' := by
  have H := Lib.hid h; clear h
  go_enter Try.func7, Try.ntmps7
  go_wp2_with fail
  refine H.out.mono ?_
  rintro e w1 ⟨b, rfl, nn, _, hb⟩
  have NN := Lib.hid nn; have HB := Lib.hid hb
  clear nn hb H
  go_wp2_with fail
  refine (truth_any v _ _ NN.out).mono ?_
  rintro e w2 ⟨rfl, hb⟩
  have HB2 := Lib.hid (HB.out.trans (hb.mono HB.out.size))
  clear hb HB NN
  go_wp2_with fail
  go_ret2
  exact ⟨rfl, HB2.out⟩

/-- Two values that are compared: two whole numbers or two texts; c: how they stand. -/
def Pr (w : World) (b1 b2 : Nat) (c : Int) : Prop :=
  (∃ x y, IsN w b1 2 x ⟨#[]⟩ 0 0 ∧ IsN w b2 2 y ⟨#[]⟩ 0 0 ∧ orOf (cmpI x y) (cmpS ⟨#[]⟩ ⟨#[]⟩) = c ∧ orOf (cmpI y x) (cmpS ⟨#[]⟩ ⟨#[]⟩) = -c) ∨
  (∃ s t : ByteArray, IsN w b1 3 0 s 0 0 ∧ IsN w b2 3 0 t 0 0 ∧ (s.size ≤ 4095 ∧ t.size ≤ 4095) ∧ orOf (cmpI 0 0) (cmpS s t) = c ∧ orOf (cmpI 0 0) (cmpS t s) = -c)
theorem Pr.up {w w' : World} {b1 b2 : Nat} {c : Int} (h : Pr w b1 b2 c) (hb : Below w.heap.size w w') : Pr w' b1 b2 c := by
  rcases h with ⟨x, y, h1, h2, h3, h4⟩ | ⟨s, t, h1, h2, h3, h4, h5⟩
  · exact .inl ⟨x, y, h1.up hb, h2.up hb, h3, h4⟩
  · exact .inr ⟨s, t, h1.up hb, h2.up hb, h3, h4, h5⟩
theorem asked_lt {w : World} {b1 b2 : Nat} {c : Int} (h : Pr w b1 b2 c) : Calls Try.prog 7 #[.int .u8 34, .slice (some ⟨b1, 0, none⟩) 1 1, .slice (some ⟨b2, 0, none⟩) 1 1] w fun e w' => e = .returned (.tuple #[.bool (decide (c < 0)), .bool true]) ∧ Below w.heap.size w w' := by
  rcases h with ⟨x, y, h1, h2, h3, _⟩ | ⟨s, t, h1, h2, h3, h4, _⟩
  · exact asked_of _ _ _ _ _ (binary_lti x y c h3 _ rfl _ _ _ h1 h2)
  · exact asked_of _ _ _ _ _ (binary_ltt s t c h4 h3.1 h3.2 _ rfl _ _ _ h1 h2)
theorem asked_gt {w : World} {b1 b2 : Nat} {c : Int} (h : Pr w b1 b2 c) : Calls Try.prog 7 #[.int .u8 34, .slice (some ⟨b2, 0, none⟩) 1 1, .slice (some ⟨b1, 0, none⟩) 1 1] w fun e w' => e = .returned (.tuple #[.bool (decide (0 < c)), .bool true]) ∧ Below w.heap.size w w' := by
  have e : decide (-c < 0) = decide (0 < c) := by congr 1; rw [eq_iff_iff]; omega
  rcases h with ⟨x, y, h1, h2, _, h3⟩ | ⟨s, t, h1, h2, h3, _, h4⟩
  · exact asked_of _ _ _ _ _ (binary_lti y x (-c) h3 _ e _ _ _ h2 h1)
  · exact asked_of _ _ _ _ _ (binary_ltt t s (-c) h4 h3.2 h3.1 _ e _ _ _ h2 h1)
theorem asked_eq {w : World} {b1 b2 : Nat} {c : Int} (h : Pr w b1 b2 c) : Calls Try.prog 7 #[.int .u8 32, .slice (some ⟨b1, 0, none⟩) 1 1, .slice (some ⟨b2, 0, none⟩) 1 1] w fun e w' => e = .returned (.tuple #[.bool (c == 0), .bool true]) ∧ Below w.heap.size w w' := by
  rcases h with ⟨x, y, h1, h2, h3, _⟩ | ⟨s, t, h1, h2, h3, h4, _⟩
  · exact asked_of _ _ _ _ _ (binary_eqi x y c h3 _ _ _ h1 h2)
  · exact asked_of _ _ _ _ _ (binary_eqt s t c h4 h3.1 h3.2 _ _ _ h1 h2)
theorem asked_le {w : World} {b1 b2 : Nat} {c : Int} (h : Pr w b1 b2 c) : Calls Try.prog 7 #[.int .u8 35, .slice (some ⟨b1, 0, none⟩) 1 1, .slice (some ⟨b2, 0, none⟩) 1 1] w fun e w' => e = .returned (.tuple #[.bool (decide (c ≤ 0)), .bool true]) ∧ Below w.heap.size w w' := by
  rcases h with ⟨x, y, h1, h2, h3, _⟩ | ⟨s, t, h1, h2, h3, h4, _⟩
  · exact asked_of _ _ _ _ _ (binary_lei x y c h3 _ rfl _ _ _ h1 h2)
  · exact asked_of _ _ _ _ _ (binary_let s t c h4 h3.1 h3.2 _ rfl _ _ _ h1 h2)
theorem asked_ne {w : World} {b1 b2 : Nat} {c : Int} (h : Pr w b1 b2 c) : Calls Try.prog 7 #[.int .u8 33, .slice (some ⟨b1, 0, none⟩) 1 1, .slice (some ⟨b2, 0, none⟩) 1 1] w fun e w' => e = .returned (.tuple #[.bool (!(c == 0)), .bool true]) ∧ Below w.heap.size w w' := by
  rcases h with ⟨x, y, h1, h2, h3, _⟩ | ⟨s, t, h1, h2, h3, h4, _⟩
  · exact asked_of _ _ _ _ _ (binary_nei x y c h3 _ _ _ h1 h2)
  · exact asked_of _ _ _ _ _ (binary_net s t c h4 h3.1 h3.2 _ _ _ h1 h2)

theorem cmpI_turned (x y : Int) : cmpI y x = -cmpI x y := by
  unfold cmpI
  rcases Int.lt_trichotomy x y with h | h | h
  · rw [if_neg (by omega), if_pos h, if_pos h]; rfl
  · subst h; rw [if_neg (by omega), if_neg (by omega)]; rfl
  · rw [if_pos h, if_neg (by omega), if_pos h]
theorem orOf_zero (i : Int) : orOf i 0 = i := by unfold orOf; split <;> simp_all
theorem pr_ints (x y : Int) (b1 b2 : Nat) (w : World) (h1 : IsN w b1 2 x ⟨#[]⟩ 0 0) (h2 : IsN w b2 2 y ⟨#[]⟩ 0 0) : Pr w b1 b2 (cmpI x y) :=
  .inl ⟨x, y, h1, h2, orOf_zero _, (orOf_zero _).trans (cmpI_turned x y)⟩
theorem compare_turned : ∀ l m : List UInt8, Lib.compareBytes m l = -Lib.compareBytes l m
  | [], [] => rfl
  | [], _ :: _ => rfl
  | _ :: _, [] => rfl
  | a :: l, b :: m => by
    unfold Lib.compareBytes
    by_cases h1 : a < b
    · have h2 : ¬ b < a := by rw [UInt8.lt_iff_toNat_lt] at *; omega
      rw [if_neg h2, if_pos h1, if_pos h1]; rfl
    · by_cases h2 : b < a
      · rw [if_pos h2, if_neg h1, if_pos h2]
      · rw [if_neg h2, if_neg h1, if_neg h1, if_neg h2]; exact compare_turned l m
theorem cmpS_turned (s t : ByteArray) : cmpS t s = -cmpS s t := compare_turned _ _
theorem pr_texts (s t : ByteArray) (hs : s.size ≤ 4095) (ht : t.size ≤ 4095) (b1 b2 : Nat) (w : World) (h1 : IsN w b1 3 0 s 0 0) (h2 : IsN w b2 3 0 t 0 0) : Pr w b1 b2 (cmpS s t) :=
  .inr ⟨s, t, h1, h2, ⟨hs, ht⟩, rfl, cmpS_turned s t⟩
end Go.Proofs.Ytibalalijfdkoaa
