/- oper.checked, value.Same, value.Order, oper.Truth at values of one node. -/
import Derived.Test.YtibalalijfdkoaaA9
namespace Go.Proofs.Ytibalalijfdkoaa
open Go.ChangeShapes Go.WideShapes Go.ChangeAt Go.RowKit

set_option maxHeartbeats 1000000 in
theorem checked_two {k1 i1 k2 i2 : Int} {s1 s2 : ByteArray} {re1 im1 re2 im2 : Nat} (n1 : Nice k1 i1 s1 re1 im1) (n2 : Nice k2 i2 s2 re2 im2) (g b1 b2 : Nat) (w : World)
    (hg0 : w.cell? ⟨g, 0, none⟩ = some (.slice (some ⟨b1, 0, none⟩) 1 1)) (hg1 : w.cell? ⟨g, 1, none⟩ = some (.slice (some ⟨b2, 0, none⟩) 1 1)) (h1 : IsN w b1 k1 i1 s1 re1 im1) (h2 : IsN w b2 k2 i2 s2 re2 im2) :
    Calls Try.prog 17 #[.slice (some ⟨g, 0, none⟩) 2 2] w fun e w' => e = .returned (.int .i64 0) ∧ Below w.heap.size w w' := by
  have lg := cell_lt hg0
  have N1 := Lib.hid n1; have N2 := Lib.hid n2; have H1 := Lib.hid h1; have H2 := Lib.hid h2
  have G1 := Lib.hid hg1
  clear n1 n2 h1 h2 hg1
  go_enter Try.func17, Try.ntmps17
  go_wp2
  refine wp_loop_rounds 3 ?_
  rw [rounds_succ]
  go_wp2_with fail
  refine (check_any N1.out _ _ H1.out).mono ?_
  rintro e w1 ⟨rfl, hb1⟩
  have hg1 := ((hb1.cell (p := ⟨g, 1, none⟩) lg).trans G1.out)
  have H2' := Lib.hid (H2.out.up hb1)
  have HB1 := Lib.hid hb1
  clear hb1 hg0 lg
  go_wp2_with fail
  rw [rounds_succ]
  go_wp2_with fail
  refine (check_any N2.out _ _ H2'.out).mono ?_
  rintro e w2 ⟨rfl, hb2⟩
  have HB2 := Lib.hid (HB1.out.trans (hb2.mono HB1.out.size))
  clear hb2 hg1
  go_wp2_with fail
  rw [rounds_succ]
  go_wp2_with fail
  go_ret
  exact ⟨rfl, HB2.out⟩

set_option maxHeartbeats 1000000 in
theorem checked_one {k1 i1 : Int} {s1 : ByteArray} {re1 im1 : Nat} (n1 : Nice k1 i1 s1 re1 im1) (g b1 : Nat) (w : World)
    (hg0 : w.cell? ⟨g, 0, none⟩ = some (.slice (some ⟨b1, 0, none⟩) 1 1)) (h1 : IsN w b1 k1 i1 s1 re1 im1) :
    Calls Try.prog 17 #[.slice (some ⟨g, 0, none⟩) 1 1] w fun e w' => e = .returned (.int .i64 0) ∧ Below w.heap.size w w' := by
  have N1 := Lib.hid n1; have H1 := Lib.hid h1
  clear n1 h1
  go_enter Try.func17, Try.ntmps17
  go_wp2
  refine wp_loop_rounds 2 ?_
  rw [rounds_succ]
  go_wp2_with fail
  refine (check_any N1.out _ _ H1.out).mono ?_
  rintro e w1 ⟨rfl, hb1⟩
  have HB1 := Lib.hid hb1
  clear hb1 hg0
  go_wp2_with fail
  rw [rounds_succ]
  go_wp2_with fail
  go_ret
  exact ⟨rfl, HB1.out⟩

theorem same_any {k i1 i2 : Int} {s1 s2 : ByteArray} (n1 : Nice k i1 s1 0 0) (n2 : Nice k i2 s2 0 0) (b1 b2 : Nat) (w : World) (h1 : IsN w b1 k i1 s1 0 0) (h2 : IsN w b2 k i2 s2 0 0) :
    Calls Try.prog 11 #[.slice (some ⟨b1, 0, none⟩) 1 1, .slice (some ⟨b2, 0, none⟩) 1 1] w fun e w' => e = .returned (.bool (orOf (cmpI i1 i2) (cmpS s1 s2) == 0)) ∧ Below w.heap.size w w' := by
  have N1 := Lib.hid n1; have N2 := Lib.hid n2; have H1 := Lib.hid h1; have H2 := Lib.hid h2
  clear n1 n2 h1 h2
  go_enter Try.func11, Try.ntmps11
  go_wp2_with fail
  refine (check_any N1.out _ _ H1.out).mono ?_
  rintro e w1 ⟨rfl, hb1⟩
  have H1' := Lib.hid (H1.out.up hb1)
  have H2' := Lib.hid (H2.out.up hb1)
  have HB1 := Lib.hid hb1
  clear hb1
  go_wp2_with fail
  refine (check_any N2.out _ _ H2'.out).mono ?_
  rintro e w2 ⟨rfl, hb2⟩
  have HB2 := Lib.hid (HB1.out.trans (hb2.mono HB1.out.size))
  have H1'' := Lib.hid (H1'.out.up hb2)
  have H2'' := Lib.hid (H2'.out.up hb2)
  clear hb2
  go_wp2_with fail
  refine (against_any _ _ _ _ _ _ _ _ H1''.out H2''.out).mono ?_
  rintro e w3 ⟨rfl, hb3⟩
  have HB3 := Lib.hid (HB2.out.trans (hb3.mono HB2.out.size))
  clear hb3

  go_wp2
  go_ret
  exact ⟨rfl, HB3.out⟩

theorem order_any {k i1 i2 : Int} {s1 s2 : ByteArray} (n1 : Nice k i1 s1 0 0) (n2 : Nice k i2 s2 0 0) (b1 b2 : Nat) (w : World) (h1 : IsN w b1 k i1 s1 0 0) (h2 : IsN w b2 k i2 s2 0 0) :
    Calls Try.prog 23 #[.slice (some ⟨b1, 0, none⟩) 1 1, .slice (some ⟨b2, 0, none⟩) 1 1] w fun e w' => e = .returned (.int .i64 (orOf (cmpI i1 i2) (cmpS s1 s2))) ∧ Below w.heap.size w w' := by
  have N1 := Lib.hid n1; have N2 := Lib.hid n2; have H1 := Lib.hid h1; have H2 := Lib.hid h2
  clear n1 n2 h1 h2
  go_enter Try.func23, Try.ntmps23
  go_wp2_with fail
  refine (check_any N1.out _ _ H1.out).mono ?_
  rintro e w1 ⟨rfl, hb1⟩
  have H1' := Lib.hid (H1.out.up hb1)
  have H2' := Lib.hid (H2.out.up hb1)
  have HB1 := Lib.hid hb1
  clear hb1
  go_wp2_with fail
  refine (check_any N2.out _ _ H2'.out).mono ?_
  rintro e w2 ⟨rfl, hb2⟩
  have HB2 := Lib.hid (HB1.out.trans (hb2.mono HB1.out.size))
  have H1'' := Lib.hid (H1'.out.up hb2)
  have H2'' := Lib.hid (H2'.out.up hb2)
  clear hb2
  go_wp2_with fail
  refine (against_any _ _ _ _ _ _ _ _ H1''.out H2''.out).mono ?_
  rintro e w3 ⟨rfl, hb3⟩
  have HB3 := Lib.hid (HB2.out.trans (hb3.mono HB2.out.size))
  clear hb3
  go_wp2
  go_ret
  exact ⟨rfl, HB3.out⟩

theorem truth_any (x : Bool) (b : Nat) (w : World) (h1 : IsN w b 1 x.toNat ⟨#[]⟩ 0 0) :
    Calls Try.prog 16 #[.slice (some ⟨b, 0, none⟩) 1 1] w fun e w' => e = .returned (.tuple #[.bool x, .int .i64 0]) ∧ Below w.heap.size w w' := by
  have H1 := Lib.hid h1
  clear h1
  have hg0 := (Boxed.new w 23 (.slice (some ⟨b, 0, none⟩) 1 1)).cell
  have G0 := Lib.hid hg0
  clear hg0
  go_enter Try.func16, Try.ntmps16
  go_wp2_with fail
  refine (checked_one (Nice.bool x) _ _ _ G0.out (H1.out.alloc _)).mono ?_
  rintro e w1 ⟨rfl, hb1⟩
  have HB := Lib.hid (((Below.refl w.heap.size w).alloc (Nat.le_refl _) _).trans (hb1.mono (by simp)))
  obtain ⟨c0, c1, c2, c3, c4⟩ := ((H1.out.alloc _).up hb1).cells
  clear hb1
  cases x
  all_goals
    go_wp2
    go_ret2
    exact ⟨rfl, HB.out⟩
end Go.Proofs.Ytibalalijfdkoaa
