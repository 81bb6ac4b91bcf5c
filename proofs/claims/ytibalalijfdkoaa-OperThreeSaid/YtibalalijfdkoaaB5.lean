/- oper.Unary at a complex number; the statement's own run. -/
import Derived.Test.YtibalalijfdkoaaB2
namespace Go.Proofs.Ytibalalijfdkoaa
open Go.ChangeShapes Go.WideShapes Go.ChangeAt Go.RowKit

theorem checked_one_new {k1 i1 : Int} {s1 : ByteArray} {re1 im1 : Nat} (n1 : Nice k1 i1 s1 re1 im1) (b1 : Nat) (w : World) (h1 : IsN w b1 k1 i1 s1 re1 im1) :
    Calls Try.prog 17 #[.slice (some ⟨w.heap.size, 0, none⟩) 1 1] (w.alloc (.cells #[.slice (some ⟨b1, 0, none⟩) 1 1] 23)) fun e w' => e = .returned (.int .i64 0) ∧ Below w.heap.size w w' := by
  have h := World.alloc_heap_new w (.cells #[.slice (some ⟨b1, 0, none⟩) 1 1] 23)
  refine (checked_one n1 _ b1 _ ((cell_block h).trans rfl) (h1.alloc _)).mono ?_
  rintro e w' ⟨rfl, hb⟩
  exact ⟨rfl, ((Below.refl _ w).alloc (Nat.le_refl _) _).trans (hb.mono (by simp))⟩

set_option maxRecDepth 100000 in
set_option maxHeartbeats 2000000 in
theorem unary_re (x y : Int) (hx : x.natAbs < 2 ^ 53) (hy : y.natAbs < 2 ^ 53) (b1 : Nat) (w : World) (h1 : IsN w b1 4 0 ⟨#[]⟩ (fl x) (fl y)) :
    Calls Try.prog 10 #[.int .u8 46, .slice (some ⟨b1, 0, none⟩) 1 1] w (MakesE 2 x ⟨#[]⟩ 0 0 w) := by
  have H1 := Lib.hid h1; have HX := Lib.hid hx; have HY := Lib.hid hy
  clear h1 hx hy
  go_enter Try.func10, Try.ntmps10
  go_wp2_with fail
  refine (checked_one_new (Nice.numOf x y HX.out HY.out) _ _ H1.out).mono ?_
  rintro e w1 ⟨rfl, hb1⟩
  obtain ⟨c0, c1, c2, c3, c4⟩ := (H1.out.up hb1).cells
  have HB1 := Lib.hid hb1
  clear hb1 H1
  go_wp2_with fail
  go_quiet (fail)
  go_wp2_with fail
  have HB2 : Hid (Below w.heap.size w ((w1.alloc (.cells (nd 4 0 ⟨#[]⟩ (fl x) (fl y)) 41)).drewN nq)) := (HB1.out.alloc HB1.out.size _).trans ⟨rfl, rfl, rfl, Nat.le_refl _, fun _ _ => rfl⟩
  clear HB1 c0 c1 c2 c3 c4
  refine (parts_any x y HX.out HY.out _).mono ?_
  rintro e w2 ⟨rfl, rfl⟩
  generalize (w1.alloc (.cells (nd 4 0 ⟨#[]⟩ (fl x) (fl y)) 41)).drewN nq = wd at HB2 ⊢
  go_wp2_with fail
  refine (int_any _ _).mono ?_
  rintro e w3 ⟨b, rfl, hn, hlt, hb⟩
  have HN := Lib.hid hn; have HLT := Lib.hid hlt
  have HB3 := Lib.hid (HB2.out.trans (hb.mono HB2.out.size))
  clear hn hlt hb
  go_wp2_with fail
  go_ret2
  exact ⟨b, rfl, HN.out, Nat.le_trans HB2.out.size HLT.out, HB3.out⟩

set_option maxRecDepth 100000 in
set_option maxHeartbeats 2000000 in
theorem unary_im (x y : Int) (hx : x.natAbs < 2 ^ 53) (hy : y.natAbs < 2 ^ 53) (b1 : Nat) (w : World) (h1 : IsN w b1 4 0 ⟨#[]⟩ (fl x) (fl y)) :
    Calls Try.prog 10 #[.int .u8 47, .slice (some ⟨b1, 0, none⟩) 1 1] w (MakesE 2 y ⟨#[]⟩ 0 0 w) := by
  have H1 := Lib.hid h1; have HX := Lib.hid hx; have HY := Lib.hid hy
  clear h1 hx hy
  go_enter Try.func10, Try.ntmps10
  go_wp2_with fail
  refine (checked_one_new (Nice.numOf x y HX.out HY.out) _ _ H1.out).mono ?_
  rintro e w1 ⟨rfl, hb1⟩
  obtain ⟨c0, c1, c2, c3, c4⟩ := (H1.out.up hb1).cells
  have HB1 := Lib.hid hb1
  clear hb1 H1
  go_wp2_with fail
  go_quiet (fail)
  go_wp2_with fail
  have HB2 : Hid (Below w.heap.size w ((w1.alloc (.cells (nd 4 0 ⟨#[]⟩ (fl x) (fl y)) 41)).drewN nq)) := (HB1.out.alloc HB1.out.size _).trans ⟨rfl, rfl, rfl, Nat.le_refl _, fun _ _ => rfl⟩
  clear HB1 c0 c1 c2 c3 c4
  refine (parts_any x y HX.out HY.out _).mono ?_
  rintro e w2 ⟨rfl, rfl⟩
  generalize (w1.alloc (.cells (nd 4 0 ⟨#[]⟩ (fl x) (fl y)) 41)).drewN nq = wd at HB2 ⊢
  go_wp2_with fail
  refine (int_any _ _).mono ?_
  rintro e w3 ⟨b, rfl, hn, hlt, hb⟩
  have HN := Lib.hid hn; have HLT := Lib.hid hlt
  have HB3 := Lib.hid (HB2.out.trans (hb.mono HB2.out.size))
  clear hn hlt hb
  go_wp2_with fail
  go_ret2
  exact ⟨b, rfl, HN.out, Nat.le_trans HB2.out.size HLT.out, HB3.out⟩

set_option maxRecDepth 100000 in
set_option maxHeartbeats 2000000 in
theorem unary_conj (x y : Int) (hx : x.natAbs < 2 ^ 53) (hy : y.natAbs < 2 ^ 53) (b1 : Nat) (w : World) (h1 : IsN w b1 4 0 ⟨#[]⟩ (fl x) (fl y)) :
    Calls Try.prog 10 #[.int .u8 48, .slice (some ⟨b1, 0, none⟩) 1 1] w (MakesE 4 0 ⟨#[]⟩ (fl x) (fl (-y)) w) := by
  have H1 := Lib.hid h1; have HX := Lib.hid hx; have HY := Lib.hid hy
  clear h1 hx hy
  go_enter Try.func10, Try.ntmps10
  go_wp2_with fail
  refine (checked_one_new (Nice.numOf x y HX.out HY.out) _ _ H1.out).mono ?_
  rintro e w1 ⟨rfl, hb1⟩
  obtain ⟨c0, c1, c2, c3, c4⟩ := (H1.out.up hb1).cells
  have HB1 := Lib.hid hb1
  clear hb1 H1
  go_wp2_with fail
  go_quiet (fail)
  go_wp2_with fail
  have HB2 : Hid (Below w.heap.size w ((w1.alloc (.cells (nd 4 0 ⟨#[]⟩ (fl x) (fl y)) 41)).drewN nq)) := (HB1.out.alloc HB1.out.size _).trans ⟨rfl, rfl, rfl, Nat.le_refl _, fun _ _ => rfl⟩
  clear HB1 c0 c1 c2 c3 c4
  refine (conj_any x y HX.out HY.out _).mono ?_
  rintro e w2 ⟨rfl, rfl⟩
  generalize (w1.alloc (.cells (nd 4 0 ⟨#[]⟩ (fl x) (fl y)) 41)).drewN nq = wd at HB2 ⊢
  go_wp2_with fail
  refine (number_any _ _ (okw_fl _ HX.out) (okw_fl _ (by have := HY.out; omega)) _).mono ?_
  rintro e w3 ⟨b, rfl, hn, hlt, hb⟩
  have HN := Lib.hid hn; have HLT := Lib.hid hlt
  have HB3 := Lib.hid (HB2.out.trans (hb.mono HB2.out.size))
  clear hn hlt hb
  go_wp2_with fail
  go_ret2
  exact ⟨b, rfl, HN.out, Nat.le_trans HB2.out.size HLT.out, HB3.out⟩

set_option maxHeartbeats 1000000 in
theorem wakes_any (w : World) : Calls Try.prog 8 #[] w fun e w' => e = .returned (.bool true) ∧ Below w.heap.size w w' := by
  have n1 := (IsN.new w 2 2 ⟨#[]⟩ 0 0).alloc (.cells (nd 2 3 ⟨#[]⟩ 0 0) 41)
  have n2 := IsN.new' (w := w.alloc (.cells (nd 2 2 ⟨#[]⟩ 0 0) 41)) (b := w.heap.size + 1) 2 3 ⟨#[]⟩ 0 0 (by simp)
  have hb0 : Below w.heap.size w ((w.alloc (.cells (nd 2 2 ⟨#[]⟩ 0 0) 41)).alloc (.cells (nd 2 3 ⟨#[]⟩ 0 0) 41)) := by go_grown
  have N1 := Lib.hid n1; have N2 := Lib.hid n2; have HB0 := Lib.hid hb0
  clear n1 n2 hb0
  go_enter Try.func8, Try.ntmps8
  go_wp2_with fail
  refine (binary_addi _ _ _ N1.out N2.out).mono ?_
  rintro e w3 ⟨b, rfl, hn, hlt, hb⟩
  obtain ⟨c0, _, c2, _, _⟩ := hn.cells
  have HB := Lib.hid (HB0.out.trans (hb.mono HB0.out.size))
  clear hn hlt hb N1 N2 HB0
  go_wp2_with fail
  go_ret
  exact ⟨rfl, HB.out⟩
end Go.Proofs.Ytibalalijfdkoaa
