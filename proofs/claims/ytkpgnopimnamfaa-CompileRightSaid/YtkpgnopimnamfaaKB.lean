/- kindOf, number by number, the others. -/
import Derived.Test.YtkpgnopimnamfaaKA
namespace Go.Proofs.Ytkpgnopimnamfaa
open Go.ChangeShapes Go.WideShapes Go.ChangeAt Go.RowKit
theorem kind_25 (w : World) : Calls Try.prog 15 #[.int .u8 25] w fun e w' => e = .returned (.agg #[.string ⟨#[108, 105, 115, 116]⟩, .int .u8 99, .bool false, .int .u8 0, .int .i64 0, .int .i64 1, .bool true, .bool false]) ∧ Below w.heap.size w w' := by
  go_enter Try.func15, Try.ntmps15
  go_wp2_with fail
  exact bodyPost_ret (v := .agg #[.string ⟨#[108, 105, 115, 116]⟩, .int .u8 99, .bool false, .int .u8 0, .int .i64 0, .int .i64 1, .bool true, .bool false]) (by simp [results, Try.results15, go_sem]) rfl ⟨rfl, (Below.refl _ _).alloc (Nat.le_refl _) _⟩
theorem kind_26 (w : World) : Calls Try.prog 15 #[.int .u8 26] w fun e w' => e = .returned (.agg #[.string ⟨#[108, 111, 97, 100]⟩, .int .u8 115, .bool false, .int .u8 0, .int .i64 0, .int .i64 1, .bool false, .bool false]) ∧ Below w.heap.size w w' := by
  go_enter Try.func15, Try.ntmps15
  go_wp2_with fail
  exact bodyPost_ret (v := .agg #[.string ⟨#[108, 111, 97, 100]⟩, .int .u8 115, .bool false, .int .u8 0, .int .i64 0, .int .i64 1, .bool false, .bool false]) (by simp [results, Try.results15, go_sem]) rfl ⟨rfl, (Below.refl _ _).alloc (Nat.le_refl _) _⟩
theorem kind_27 (w : World) : Calls Try.prog 15 #[.int .u8 27] w fun e w' => e = .returned (.agg #[.string ⟨#[115, 116, 111, 114, 101]⟩, .int .u8 115, .bool false, .int .u8 0, .int .i64 1, .int .i64 0, .bool false, .bool false]) ∧ Below w.heap.size w w' := by
  go_enter Try.func15, Try.ntmps15
  go_wp2_with fail
  exact bodyPost_ret (v := .agg #[.string ⟨#[115, 116, 111, 114, 101]⟩, .int .u8 115, .bool false, .int .u8 0, .int .i64 1, .int .i64 0, .bool false, .bool false]) (by simp [results, Try.results15, go_sem]) rfl ⟨rfl, (Below.refl _ _).alloc (Nat.le_refl _) _⟩
theorem kind_28 (w : World) : Calls Try.prog 15 #[.int .u8 28] w fun e w' => e = .returned (.agg #[.string ⟨#[101, 110, 100]⟩, .int .u8 0, .bool false, .int .u8 0, .int .i64 0, .int .i64 0, .bool false, .bool true]) ∧ Below w.heap.size w w' := by
  go_enter Try.func15, Try.ntmps15
  go_wp2_with fail
  exact bodyPost_ret (v := .agg #[.string ⟨#[101, 110, 100]⟩, .int .u8 0, .bool false, .int .u8 0, .int .i64 0, .int .i64 0, .bool false, .bool true]) (by simp [results, Try.results15, go_sem]) rfl ⟨rfl, (Below.refl _ _).alloc (Nat.le_refl _) _⟩
theorem kind_50 (w : World) : Calls Try.prog 15 #[.int .u8 50] w fun e w' => e = .returned (.agg #[.string ⟨#[99, 97, 108, 108]⟩, .int .u8 99, .bool false, .int .u8 110, .int .i64 0, .int .i64 1, .bool true, .bool false]) ∧ Below w.heap.size w w' := by
  go_enter Try.func15, Try.ntmps15
  go_wp2_with fail
  exact bodyPost_ret (v := .agg #[.string ⟨#[99, 97, 108, 108]⟩, .int .u8 99, .bool false, .int .u8 110, .int .i64 0, .int .i64 1, .bool true, .bool false]) (by simp [results, Try.results15, go_sem]) rfl ⟨rfl, (Below.refl _ _).alloc (Nat.le_refl _) _⟩
theorem kind_51 (w : World) : Calls Try.prog 15 #[.int .u8 51] w fun e w' => e = .returned (.agg #[.string ⟨#[99, 104, 105, 108, 100]⟩, .int .u8 99, .bool false, .int .u8 110, .int .i64 0, .int .i64 1, .bool true, .bool false]) ∧ Below w.heap.size w w' := by
  go_enter Try.func15, Try.ntmps15
  go_wp2_with fail
  exact bodyPost_ret (v := .agg #[.string ⟨#[99, 104, 105, 108, 100]⟩, .int .u8 99, .bool false, .int .u8 110, .int .i64 0, .int .i64 1, .bool true, .bool false]) (by simp [results, Try.results15, go_sem]) rfl ⟨rfl, (Below.refl _ _).alloc (Nat.le_refl _) _⟩
theorem kind_53 (w : World) : Calls Try.prog 15 #[.int .u8 53] w fun e w' => e = .returned (.agg #[.string ⟨#[102, 111, 114, 107]⟩, .int .u8 116, .bool false, .int .u8 0, .int .i64 0, .int .i64 1, .bool false, .bool false]) ∧ Below w.heap.size w w' := by
  go_enter Try.func15, Try.ntmps15
  go_wp2_with fail
  exact bodyPost_ret (v := .agg #[.string ⟨#[102, 111, 114, 107]⟩, .int .u8 116, .bool false, .int .u8 0, .int .i64 0, .int .i64 1, .bool false, .bool false]) (by simp [results, Try.results15, go_sem]) rfl ⟨rfl, (Below.refl _ _).alloc (Nat.le_refl _) _⟩
theorem kind_56 (w : World) : Calls Try.prog 15 #[.int .u8 56] w fun e w' => e = .returned (.agg #[.string ⟨#[116, 97, 107, 101]⟩, .int .u8 0, .bool false, .int .u8 110, .int .i64 0, .int .i64 1, .bool false, .bool false]) ∧ Below w.heap.size w w' := by
  go_enter Try.func15, Try.ntmps15
  go_wp2_with fail
  exact bodyPost_ret (v := .agg #[.string ⟨#[116, 97, 107, 101]⟩, .int .u8 0, .bool false, .int .u8 110, .int .i64 0, .int .i64 1, .bool false, .bool false]) (by simp [results, Try.results15, go_sem]) rfl ⟨rfl, (Below.refl _ _).alloc (Nat.le_refl _) _⟩
set_option maxRecDepth 100000 in
theorem plainK_41 (w : World) : Calls Try.prog 29 #[.int .u8 41] w fun e w' => e = .returned (.agg #[.string ⟨#[110, 117, 109]⟩, .int .u8 0, .bool false, .int .u8 0, .int .i64 2, .int .i64 1, .bool false, .bool false]) ∧ Below w.heap.size w w' := by
  have hidx : ∀ w : World, (Instr.index 88 (.agg #[.string ⟨#[101, 113]⟩, .string ⟨#[110, 101]⟩, .string ⟨#[108, 116]⟩, .string ⟨#[108, 101]⟩, .string ⟨#[97, 100, 100]⟩, .string ⟨#[115, 117, 98]⟩, .string ⟨#[109, 117, 108]⟩, .string ⟨#[100, 105, 118]⟩, .string ⟨#[109, 111, 100]⟩, .string ⟨#[110, 117, 109]⟩, .string ⟨#[97, 116]⟩, .string ⟨#[110, 111, 116]⟩, .string ⟨#[110, 101, 103]⟩, .string ⟨#[108, 101, 110]⟩, .string ⟨#[114, 101]⟩, .string ⟨#[105, 109]⟩, .string ⟨#[99, 111, 110, 106]⟩]) (.int .u8 9)).run Try.prog w = .ok (.string ⟨#[110, 117, 109]⟩) w := fun _ => by kernel_rfl
  go_enter Try.func29, Try.ntmps29
  go_wp2
  exact bodyPost_ret (v := .agg #[.string ⟨#[110, 117, 109]⟩, .int .u8 0, .bool false, .int .u8 0, .int .i64 2, .int .i64 1, .bool false, .bool false]) (by simp [results, Try.results29, go_sem]) rfl ⟨rfl, (Below.refl _ _).alloc (Nat.le_refl _) _⟩
set_option maxRecDepth 100000 in
theorem kind_41 (w : World) : Calls Try.prog 15 #[.int .u8 41] w fun e w' => e = .returned (.agg #[.string ⟨#[110, 117, 109]⟩, .int .u8 0, .bool false, .int .u8 0, .int .i64 2, .int .i64 1, .bool false, .bool false]) ∧ Below w.heap.size w w' := by
  go_enter Try.func15, Try.ntmps15
  go_wp2_with fail
  refine (plainK_41 _).mono ?_
  rintro e w1 ⟨rfl, hb⟩
  have B1 : Below w.heap.size w w1 := ((Below.refl _ w).alloc (Nat.le_refl _) _).trans (hb.mono (by simp))
  obtain ⟨⟨k0, k1, k2, k3, k4, k5, k6, k7⟩, f0, f1, f2, f3, f4, f5, f6, f7⟩ := kind_zero hb
  have HB := Lib.hid B1; clear B1 hb
  go_wp2_with fail
  exact bodyPost_ret (v := .agg #[.string ⟨#[110, 117, 109]⟩, .int .u8 0, .bool false, .int .u8 0, .int .i64 2, .int .i64 1, .bool false, .bool false]) (by simp [results, Try.results15, go_sem, k0, k1, k2, k3, k4, k5, k6, k7]) rfl ⟨rfl, kind_below HB.out⟩
set_option maxRecDepth 100000 in
theorem plainK_42 (w : World) : Calls Try.prog 29 #[.int .u8 42] w fun e w' => e = .returned (.agg #[.string ⟨#[97, 116]⟩, .int .u8 0, .bool false, .int .u8 0, .int .i64 2, .int .i64 1, .bool false, .bool false]) ∧ Below w.heap.size w w' := by
  have hidx : ∀ w : World, (Instr.index 88 (.agg #[.string ⟨#[101, 113]⟩, .string ⟨#[110, 101]⟩, .string ⟨#[108, 116]⟩, .string ⟨#[108, 101]⟩, .string ⟨#[97, 100, 100]⟩, .string ⟨#[115, 117, 98]⟩, .string ⟨#[109, 117, 108]⟩, .string ⟨#[100, 105, 118]⟩, .string ⟨#[109, 111, 100]⟩, .string ⟨#[110, 117, 109]⟩, .string ⟨#[97, 116]⟩, .string ⟨#[110, 111, 116]⟩, .string ⟨#[110, 101, 103]⟩, .string ⟨#[108, 101, 110]⟩, .string ⟨#[114, 101]⟩, .string ⟨#[105, 109]⟩, .string ⟨#[99, 111, 110, 106]⟩]) (.int .u8 10)).run Try.prog w = .ok (.string ⟨#[97, 116]⟩) w := fun _ => by kernel_rfl
  go_enter Try.func29, Try.ntmps29
  go_wp2
  exact bodyPost_ret (v := .agg #[.string ⟨#[97, 116]⟩, .int .u8 0, .bool false, .int .u8 0, .int .i64 2, .int .i64 1, .bool false, .bool false]) (by simp [results, Try.results29, go_sem]) rfl ⟨rfl, (Below.refl _ _).alloc (Nat.le_refl _) _⟩
set_option maxRecDepth 100000 in
theorem kind_42 (w : World) : Calls Try.prog 15 #[.int .u8 42] w fun e w' => e = .returned (.agg #[.string ⟨#[97, 116]⟩, .int .u8 0, .bool false, .int .u8 0, .int .i64 2, .int .i64 1, .bool false, .bool false]) ∧ Below w.heap.size w w' := by
  go_enter Try.func15, Try.ntmps15
  go_wp2_with fail
  refine (plainK_42 _).mono ?_
  rintro e w1 ⟨rfl, hb⟩
  have B1 : Below w.heap.size w w1 := ((Below.refl _ w).alloc (Nat.le_refl _) _).trans (hb.mono (by simp))
  obtain ⟨⟨k0, k1, k2, k3, k4, k5, k6, k7⟩, f0, f1, f2, f3, f4, f5, f6, f7⟩ := kind_zero hb
  have HB := Lib.hid B1; clear B1 hb
  go_wp2_with fail
  exact bodyPost_ret (v := .agg #[.string ⟨#[97, 116]⟩, .int .u8 0, .bool false, .int .u8 0, .int .i64 2, .int .i64 1, .bool false, .bool false]) (by simp [results, Try.results15, go_sem, k0, k1, k2, k3, k4, k5, k6, k7]) rfl ⟨rfl, kind_below HB.out⟩
set_option maxRecDepth 100000 in
theorem plainK_43 (w : World) : Calls Try.prog 29 #[.int .u8 43] w fun e w' => e = .returned (.agg #[.string ⟨#[110, 111, 116]⟩, .int .u8 0, .bool false, .int .u8 0, .int .i64 1, .int .i64 1, .bool false, .bool false]) ∧ Below w.heap.size w w' := by
  have hidx : ∀ w : World, (Instr.index 88 (.agg #[.string ⟨#[101, 113]⟩, .string ⟨#[110, 101]⟩, .string ⟨#[108, 116]⟩, .string ⟨#[108, 101]⟩, .string ⟨#[97, 100, 100]⟩, .string ⟨#[115, 117, 98]⟩, .string ⟨#[109, 117, 108]⟩, .string ⟨#[100, 105, 118]⟩, .string ⟨#[109, 111, 100]⟩, .string ⟨#[110, 117, 109]⟩, .string ⟨#[97, 116]⟩, .string ⟨#[110, 111, 116]⟩, .string ⟨#[110, 101, 103]⟩, .string ⟨#[108, 101, 110]⟩, .string ⟨#[114, 101]⟩, .string ⟨#[105, 109]⟩, .string ⟨#[99, 111, 110, 106]⟩]) (.int .u8 11)).run Try.prog w = .ok (.string ⟨#[110, 111, 116]⟩) w := fun _ => by kernel_rfl
  go_enter Try.func29, Try.ntmps29
  go_wp2
  exact bodyPost_ret (v := .agg #[.string ⟨#[110, 111, 116]⟩, .int .u8 0, .bool false, .int .u8 0, .int .i64 1, .int .i64 1, .bool false, .bool false]) (by simp [results, Try.results29, go_sem]) rfl ⟨rfl, (Below.refl _ _).alloc (Nat.le_refl _) _⟩
set_option maxRecDepth 100000 in
theorem kind_43 (w : World) : Calls Try.prog 15 #[.int .u8 43] w fun e w' => e = .returned (.agg #[.string ⟨#[110, 111, 116]⟩, .int .u8 0, .bool false, .int .u8 0, .int .i64 1, .int .i64 1, .bool false, .bool false]) ∧ Below w.heap.size w w' := by
  go_enter Try.func15, Try.ntmps15
  go_wp2_with fail
  refine (plainK_43 _).mono ?_
  rintro e w1 ⟨rfl, hb⟩
  have B1 : Below w.heap.size w w1 := ((Below.refl _ w).alloc (Nat.le_refl _) _).trans (hb.mono (by simp))
  obtain ⟨⟨k0, k1, k2, k3, k4, k5, k6, k7⟩, f0, f1, f2, f3, f4, f5, f6, f7⟩ := kind_zero hb
  have HB := Lib.hid B1; clear B1 hb
  go_wp2_with fail
  exact bodyPost_ret (v := .agg #[.string ⟨#[110, 111, 116]⟩, .int .u8 0, .bool false, .int .u8 0, .int .i64 1, .int .i64 1, .bool false, .bool false]) (by simp [results, Try.results15, go_sem, k0, k1, k2, k3, k4, k5, k6, k7]) rfl ⟨rfl, kind_below HB.out⟩
set_option maxRecDepth 100000 in
theorem plainK_44 (w : World) : Calls Try.prog 29 #[.int .u8 44] w fun e w' => e = .returned (.agg #[.string ⟨#[110, 101, 103]⟩, .int .u8 0, .bool false, .int .u8 0, .int .i64 1, .int .i64 1, .bool false, .bool false]) ∧ Below w.heap.size w w' := by
  have hidx : ∀ w : World, (Instr.index 88 (.agg #[.string ⟨#[101, 113]⟩, .string ⟨#[110, 101]⟩, .string ⟨#[108, 116]⟩, .string ⟨#[108, 101]⟩, .string ⟨#[97, 100, 100]⟩, .string ⟨#[115, 117, 98]⟩, .string ⟨#[109, 117, 108]⟩, .string ⟨#[100, 105, 118]⟩, .string ⟨#[109, 111, 100]⟩, .string ⟨#[110, 117, 109]⟩, .string ⟨#[97, 116]⟩, .string ⟨#[110, 111, 116]⟩, .string ⟨#[110, 101, 103]⟩, .string ⟨#[108, 101, 110]⟩, .string ⟨#[114, 101]⟩, .string ⟨#[105, 109]⟩, .string ⟨#[99, 111, 110, 106]⟩]) (.int .u8 12)).run Try.prog w = .ok (.string ⟨#[110, 101, 103]⟩) w := fun _ => by kernel_rfl
  go_enter Try.func29, Try.ntmps29
  go_wp2
  exact bodyPost_ret (v := .agg #[.string ⟨#[110, 101, 103]⟩, .int .u8 0, .bool false, .int .u8 0, .int .i64 1, .int .i64 1, .bool false, .bool false]) (by simp [results, Try.results29, go_sem]) rfl ⟨rfl, (Below.refl _ _).alloc (Nat.le_refl _) _⟩
set_option maxRecDepth 100000 in
theorem kind_44 (w : World) : Calls Try.prog 15 #[.int .u8 44] w fun e w' => e = .returned (.agg #[.string ⟨#[110, 101, 103]⟩, .int .u8 0, .bool false, .int .u8 0, .int .i64 1, .int .i64 1, .bool false, .bool false]) ∧ Below w.heap.size w w' := by
  go_enter Try.func15, Try.ntmps15
  go_wp2_with fail
  refine (plainK_44 _).mono ?_
  rintro e w1 ⟨rfl, hb⟩
  have B1 : Below w.heap.size w w1 := ((Below.refl _ w).alloc (Nat.le_refl _) _).trans (hb.mono (by simp))
  obtain ⟨⟨k0, k1, k2, k3, k4, k5, k6, k7⟩, f0, f1, f2, f3, f4, f5, f6, f7⟩ := kind_zero hb
  have HB := Lib.hid B1; clear B1 hb
  go_wp2_with fail
  exact bodyPost_ret (v := .agg #[.string ⟨#[110, 101, 103]⟩, .int .u8 0, .bool false, .int .u8 0, .int .i64 1, .int .i64 1, .bool false, .bool false]) (by simp [results, Try.results15, go_sem, k0, k1, k2, k3, k4, k5, k6, k7]) rfl ⟨rfl, kind_below HB.out⟩
set_option maxRecDepth 100000 in
theorem plainK_45 (w : World) : Calls Try.prog 29 #[.int .u8 45] w fun e w' => e = .returned (.agg #[.string ⟨#[108, 101, 110]⟩, .int .u8 0, .bool false, .int .u8 0, .int .i64 1, .int .i64 1, .bool false, .bool false]) ∧ Below w.heap.size w w' := by
  have hidx : ∀ w : World, (Instr.index 88 (.agg #[.string ⟨#[101, 113]⟩, .string ⟨#[110, 101]⟩, .string ⟨#[108, 116]⟩, .string ⟨#[108, 101]⟩, .string ⟨#[97, 100, 100]⟩, .string ⟨#[115, 117, 98]⟩, .string ⟨#[109, 117, 108]⟩, .string ⟨#[100, 105, 118]⟩, .string ⟨#[109, 111, 100]⟩, .string ⟨#[110, 117, 109]⟩, .string ⟨#[97, 116]⟩, .string ⟨#[110, 111, 116]⟩, .string ⟨#[110, 101, 103]⟩, .string ⟨#[108, 101, 110]⟩, .string ⟨#[114, 101]⟩, .string ⟨#[105, 109]⟩, .string ⟨#[99, 111, 110, 106]⟩]) (.int .u8 13)).run Try.prog w = .ok (.string ⟨#[108, 101, 110]⟩) w := fun _ => by kernel_rfl
  go_enter Try.func29, Try.ntmps29
  go_wp2
  exact bodyPost_ret (v := .agg #[.string ⟨#[108, 101, 110]⟩, .int .u8 0, .bool false, .int .u8 0, .int .i64 1, .int .i64 1, .bool false, .bool false]) (by simp [results, Try.results29, go_sem]) rfl ⟨rfl, (Below.refl _ _).alloc (Nat.le_refl _) _⟩
set_option maxRecDepth 100000 in
theorem kind_45 (w : World) : Calls Try.prog 15 #[.int .u8 45] w fun e w' => e = .returned (.agg #[.string ⟨#[108, 101, 110]⟩, .int .u8 0, .bool false, .int .u8 0, .int .i64 1, .int .i64 1, .bool false, .bool false]) ∧ Below w.heap.size w w' := by
  go_enter Try.func15, Try.ntmps15
  go_wp2_with fail
  refine (plainK_45 _).mono ?_
  rintro e w1 ⟨rfl, hb⟩
  have B1 : Below w.heap.size w w1 := ((Below.refl _ w).alloc (Nat.le_refl _) _).trans (hb.mono (by simp))
  obtain ⟨⟨k0, k1, k2, k3, k4, k5, k6, k7⟩, f0, f1, f2, f3, f4, f5, f6, f7⟩ := kind_zero hb
  have HB := Lib.hid B1; clear B1 hb
  go_wp2_with fail
  exact bodyPost_ret (v := .agg #[.string ⟨#[108, 101, 110]⟩, .int .u8 0, .bool false, .int .u8 0, .int .i64 1, .int .i64 1, .bool false, .bool false]) (by simp [results, Try.results15, go_sem, k0, k1, k2, k3, k4, k5, k6, k7]) rfl ⟨rfl, kind_below HB.out⟩
set_option maxRecDepth 100000 in
theorem plainK_46 (w : World) : Calls Try.prog 29 #[.int .u8 46] w fun e w' => e = .returned (.agg #[.string ⟨#[114, 101]⟩, .int .u8 0, .bool false, .int .u8 0, .int .i64 1, .int .i64 1, .bool false, .bool false]) ∧ Below w.heap.size w w' := by
  have hidx : ∀ w : World, (Instr.index 88 (.agg #[.string ⟨#[101, 113]⟩, .string ⟨#[110, 101]⟩, .string ⟨#[108, 116]⟩, .string ⟨#[108, 101]⟩, .string ⟨#[97, 100, 100]⟩, .string ⟨#[115, 117, 98]⟩, .string ⟨#[109, 117, 108]⟩, .string ⟨#[100, 105, 118]⟩, .string ⟨#[109, 111, 100]⟩, .string ⟨#[110, 117, 109]⟩, .string ⟨#[97, 116]⟩, .string ⟨#[110, 111, 116]⟩, .string ⟨#[110, 101, 103]⟩, .string ⟨#[108, 101, 110]⟩, .string ⟨#[114, 101]⟩, .string ⟨#[105, 109]⟩, .string ⟨#[99, 111, 110, 106]⟩]) (.int .u8 14)).run Try.prog w = .ok (.string ⟨#[114, 101]⟩) w := fun _ => by kernel_rfl
  go_enter Try.func29, Try.ntmps29
  go_wp2
  exact bodyPost_ret (v := .agg #[.string ⟨#[114, 101]⟩, .int .u8 0, .bool false, .int .u8 0, .int .i64 1, .int .i64 1, .bool false, .bool false]) (by simp [results, Try.results29, go_sem]) rfl ⟨rfl, (Below.refl _ _).alloc (Nat.le_refl _) _⟩
set_option maxRecDepth 100000 in
theorem kind_46 (w : World) : Calls Try.prog 15 #[.int .u8 46] w fun e w' => e = .returned (.agg #[.string ⟨#[114, 101]⟩, .int .u8 0, .bool false, .int .u8 0, .int .i64 1, .int .i64 1, .bool false, .bool false]) ∧ Below w.heap.size w w' := by
  go_enter Try.func15, Try.ntmps15
  go_wp2_with fail
  refine (plainK_46 _).mono ?_
  rintro e w1 ⟨rfl, hb⟩
  have B1 : Below w.heap.size w w1 := ((Below.refl _ w).alloc (Nat.le_refl _) _).trans (hb.mono (by simp))
  obtain ⟨⟨k0, k1, k2, k3, k4, k5, k6, k7⟩, f0, f1, f2, f3, f4, f5, f6, f7⟩ := kind_zero hb
  have HB := Lib.hid B1; clear B1 hb
  go_wp2_with fail
  exact bodyPost_ret (v := .agg #[.string ⟨#[114, 101]⟩, .int .u8 0, .bool false, .int .u8 0, .int .i64 1, .int .i64 1, .bool false, .bool false]) (by simp [results, Try.results15, go_sem, k0, k1, k2, k3, k4, k5, k6, k7]) rfl ⟨rfl, kind_below HB.out⟩
set_option maxRecDepth 100000 in
theorem plainK_47 (w : World) : Calls Try.prog 29 #[.int .u8 47] w fun e w' => e = .returned (.agg #[.string ⟨#[105, 109]⟩, .int .u8 0, .bool false, .int .u8 0, .int .i64 1, .int .i64 1, .bool false, .bool false]) ∧ Below w.heap.size w w' := by
  have hidx : ∀ w : World, (Instr.index 88 (.agg #[.string ⟨#[101, 113]⟩, .string ⟨#[110, 101]⟩, .string ⟨#[108, 116]⟩, .string ⟨#[108, 101]⟩, .string ⟨#[97, 100, 100]⟩, .string ⟨#[115, 117, 98]⟩, .string ⟨#[109, 117, 108]⟩, .string ⟨#[100, 105, 118]⟩, .string ⟨#[109, 111, 100]⟩, .string ⟨#[110, 117, 109]⟩, .string ⟨#[97, 116]⟩, .string ⟨#[110, 111, 116]⟩, .string ⟨#[110, 101, 103]⟩, .string ⟨#[108, 101, 110]⟩, .string ⟨#[114, 101]⟩, .string ⟨#[105, 109]⟩, .string ⟨#[99, 111, 110, 106]⟩]) (.int .u8 15)).run Try.prog w = .ok (.string ⟨#[105, 109]⟩) w := fun _ => by kernel_rfl
  go_enter Try.func29, Try.ntmps29
  go_wp2
  exact bodyPost_ret (v := .agg #[.string ⟨#[105, 109]⟩, .int .u8 0, .bool false, .int .u8 0, .int .i64 1, .int .i64 1, .bool false, .bool false]) (by simp [results, Try.results29, go_sem]) rfl ⟨rfl, (Below.refl _ _).alloc (Nat.le_refl _) _⟩
set_option maxRecDepth 100000 in
theorem kind_47 (w : World) : Calls Try.prog 15 #[.int .u8 47] w fun e w' => e = .returned (.agg #[.string ⟨#[105, 109]⟩, .int .u8 0, .bool false, .int .u8 0, .int .i64 1, .int .i64 1, .bool false, .bool false]) ∧ Below w.heap.size w w' := by
  go_enter Try.func15, Try.ntmps15
  go_wp2_with fail
  refine (plainK_47 _).mono ?_
  rintro e w1 ⟨rfl, hb⟩
  have B1 : Below w.heap.size w w1 := ((Below.refl _ w).alloc (Nat.le_refl _) _).trans (hb.mono (by simp))
  obtain ⟨⟨k0, k1, k2, k3, k4, k5, k6, k7⟩, f0, f1, f2, f3, f4, f5, f6, f7⟩ := kind_zero hb
  have HB := Lib.hid B1; clear B1 hb
  go_wp2_with fail
  exact bodyPost_ret (v := .agg #[.string ⟨#[105, 109]⟩, .int .u8 0, .bool false, .int .u8 0, .int .i64 1, .int .i64 1, .bool false, .bool false]) (by simp [results, Try.results15, go_sem, k0, k1, k2, k3, k4, k5, k6, k7]) rfl ⟨rfl, kind_below HB.out⟩
set_option maxRecDepth 100000 in
theorem plainK_48 (w : World) : Calls Try.prog 29 #[.int .u8 48] w fun e w' => e = .returned (.agg #[.string ⟨#[99, 111, 110, 106]⟩, .int .u8 0, .bool false, .int .u8 0, .int .i64 1, .int .i64 1, .bool false, .bool false]) ∧ Below w.heap.size w w' := by
  have hidx : ∀ w : World, (Instr.index 88 (.agg #[.string ⟨#[101, 113]⟩, .string ⟨#[110, 101]⟩, .string ⟨#[108, 116]⟩, .string ⟨#[108, 101]⟩, .string ⟨#[97, 100, 100]⟩, .string ⟨#[115, 117, 98]⟩, .string ⟨#[109, 117, 108]⟩, .string ⟨#[100, 105, 118]⟩, .string ⟨#[109, 111, 100]⟩, .string ⟨#[110, 117, 109]⟩, .string ⟨#[97, 116]⟩, .string ⟨#[110, 111, 116]⟩, .string ⟨#[110, 101, 103]⟩, .string ⟨#[108, 101, 110]⟩, .string ⟨#[114, 101]⟩, .string ⟨#[105, 109]⟩, .string ⟨#[99, 111, 110, 106]⟩]) (.int .u8 16)).run Try.prog w = .ok (.string ⟨#[99, 111, 110, 106]⟩) w := fun _ => by kernel_rfl
  go_enter Try.func29, Try.ntmps29
  go_wp2
  exact bodyPost_ret (v := .agg #[.string ⟨#[99, 111, 110, 106]⟩, .int .u8 0, .bool false, .int .u8 0, .int .i64 1, .int .i64 1, .bool false, .bool false]) (by simp [results, Try.results29, go_sem]) rfl ⟨rfl, (Below.refl _ _).alloc (Nat.le_refl _) _⟩
set_option maxRecDepth 100000 in
theorem kind_48 (w : World) : Calls Try.prog 15 #[.int .u8 48] w fun e w' => e = .returned (.agg #[.string ⟨#[99, 111, 110, 106]⟩, .int .u8 0, .bool false, .int .u8 0, .int .i64 1, .int .i64 1, .bool false, .bool false]) ∧ Below w.heap.size w w' := by
  go_enter Try.func15, Try.ntmps15
  go_wp2_with fail
  refine (plainK_48 _).mono ?_
  rintro e w1 ⟨rfl, hb⟩
  have B1 : Below w.heap.size w w1 := ((Below.refl _ w).alloc (Nat.le_refl _) _).trans (hb.mono (by simp))
  obtain ⟨⟨k0, k1, k2, k3, k4, k5, k6, k7⟩, f0, f1, f2, f3, f4, f5, f6, f7⟩ := kind_zero hb
  have HB := Lib.hid B1; clear B1 hb
  go_wp2_with fail
  exact bodyPost_ret (v := .agg #[.string ⟨#[99, 111, 110, 106]⟩, .int .u8 0, .bool false, .int .u8 0, .int .i64 1, .int .i64 1, .bool false, .bool false]) (by simp [results, Try.results15, go_sem, k0, k1, k2, k3, k4, k5, k6, k7]) rfl ⟨rfl, kind_below HB.out⟩
end Go.Proofs.Ytkpgnopimnamfaa
namespace Go.Proofs.Ytkpgnopimnamfaa
open Go.ChangeShapes Go.WideShapes Go.ChangeAt Go.RowKit
set_option maxRecDepth 100000 in
theorem plainK_5 (w : World) : Calls Try.prog 29 #[.int .u8 5] w fun e w' => e = .returned (.agg #[.string ⟨#[98, 111, 111, 108]⟩, .int .u8 0, .bool false, .int .u8 0, .int .i64 1, .int .i64 1, .bool false, .bool false]) ∧ Below w.heap.size w w' := by
  go_enter Try.func29, Try.ntmps29
  go_wp2
  exact bodyPost_ret (v := .agg #[.string ⟨#[98, 111, 111, 108]⟩, .int .u8 0, .bool false, .int .u8 0, .int .i64 1, .int .i64 1, .bool false, .bool false]) (by simp [results, Try.results29, go_sem]) rfl ⟨rfl, (Below.refl _ _).alloc (Nat.le_refl _) _⟩
set_option maxRecDepth 100000 in
theorem kind_5 (w : World) : Calls Try.prog 15 #[.int .u8 5] w fun e w' => e = .returned (.agg #[.string ⟨#[98, 111, 111, 108]⟩, .int .u8 0, .bool false, .int .u8 0, .int .i64 1, .int .i64 1, .bool false, .bool false]) ∧ Below w.heap.size w w' := by
  go_enter Try.func15, Try.ntmps15
  go_wp2_with fail
  refine (plainK_5 _).mono ?_
  rintro e w1 ⟨rfl, hb⟩
  have B1 : Below w.heap.size w w1 := ((Below.refl _ w).alloc (Nat.le_refl _) _).trans (hb.mono (by simp))
  obtain ⟨⟨k0, k1, k2, k3, k4, k5, k6, k7⟩, f0, f1, f2, f3, f4, f5, f6, f7⟩ := kind_zero hb
  have HB := Lib.hid B1; clear B1 hb
  go_wp2_with fail
  exact bodyPost_ret (v := .agg #[.string ⟨#[98, 111, 111, 108]⟩, .int .u8 0, .bool false, .int .u8 0, .int .i64 1, .int .i64 1, .bool false, .bool false]) (by simp [results, Try.results15, go_sem, k0, k1, k2, k3, k4, k5, k6, k7]) rfl ⟨rfl, kind_below HB.out⟩
set_option maxRecDepth 100000 in
theorem plainK_6 (w : World) : Calls Try.prog 29 #[.int .u8 6] w fun e w' => e = .returned (.agg #[.string ⟨#[100, 114, 111, 112]⟩, .int .u8 0, .bool false, .int .u8 0, .int .i64 1, .int .i64 0, .bool false, .bool false]) ∧ Below w.heap.size w w' := by
  go_enter Try.func29, Try.ntmps29
  go_wp2
  exact bodyPost_ret (v := .agg #[.string ⟨#[100, 114, 111, 112]⟩, .int .u8 0, .bool false, .int .u8 0, .int .i64 1, .int .i64 0, .bool false, .bool false]) (by simp [results, Try.results29, go_sem]) rfl ⟨rfl, (Below.refl _ _).alloc (Nat.le_refl _) _⟩
set_option maxRecDepth 100000 in
theorem kind_6 (w : World) : Calls Try.prog 15 #[.int .u8 6] w fun e w' => e = .returned (.agg #[.string ⟨#[100, 114, 111, 112]⟩, .int .u8 0, .bool false, .int .u8 0, .int .i64 1, .int .i64 0, .bool false, .bool false]) ∧ Below w.heap.size w w' := by
  go_enter Try.func15, Try.ntmps15
  go_wp2_with fail
  refine (plainK_6 _).mono ?_
  rintro e w1 ⟨rfl, hb⟩
  have B1 : Below w.heap.size w w1 := ((Below.refl _ w).alloc (Nat.le_refl _) _).trans (hb.mono (by simp))
  obtain ⟨⟨k0, k1, k2, k3, k4, k5, k6, k7⟩, f0, f1, f2, f3, f4, f5, f6, f7⟩ := kind_zero hb
  have HB := Lib.hid B1; clear B1 hb
  go_wp2_with fail
  exact bodyPost_ret (v := .agg #[.string ⟨#[100, 114, 111, 112]⟩, .int .u8 0, .bool false, .int .u8 0, .int .i64 1, .int .i64 0, .bool false, .bool false]) (by simp [results, Try.results15, go_sem, k0, k1, k2, k3, k4, k5, k6, k7]) rfl ⟨rfl, kind_below HB.out⟩
set_option maxRecDepth 100000 in
theorem plainK_10 (w : World) : Calls Try.prog 29 #[.int .u8 10] w fun e w' => e = .returned (.agg #[.string ⟨#[115, 108, 101, 101, 112]⟩, .int .u8 0, .bool false, .int .u8 0, .int .i64 1, .int .i64 0, .bool false, .bool false]) ∧ Below w.heap.size w w' := by
  go_enter Try.func29, Try.ntmps29
  go_wp2
  exact bodyPost_ret (v := .agg #[.string ⟨#[115, 108, 101, 101, 112]⟩, .int .u8 0, .bool false, .int .u8 0, .int .i64 1, .int .i64 0, .bool false, .bool false]) (by simp [results, Try.results29, go_sem]) rfl ⟨rfl, (Below.refl _ _).alloc (Nat.le_refl _) _⟩
set_option maxRecDepth 100000 in
theorem kind_10 (w : World) : Calls Try.prog 15 #[.int .u8 10] w fun e w' => e = .returned (.agg #[.string ⟨#[115, 108, 101, 101, 112]⟩, .int .u8 0, .bool false, .int .u8 0, .int .i64 1, .int .i64 0, .bool false, .bool false]) ∧ Below w.heap.size w w' := by
  go_enter Try.func15, Try.ntmps15
  go_wp2_with fail
  refine (plainK_10 _).mono ?_
  rintro e w1 ⟨rfl, hb⟩
  have B1 : Below w.heap.size w w1 := ((Below.refl _ w).alloc (Nat.le_refl _) _).trans (hb.mono (by simp))
  obtain ⟨⟨k0, k1, k2, k3, k4, k5, k6, k7⟩, f0, f1, f2, f3, f4, f5, f6, f7⟩ := kind_zero hb
  have HB := Lib.hid B1; clear B1 hb
  go_wp2_with fail
  exact bodyPost_ret (v := .agg #[.string ⟨#[115, 108, 101, 101, 112]⟩, .int .u8 0, .bool false, .int .u8 0, .int .i64 1, .int .i64 0, .bool false, .bool false]) (by simp [results, Try.results15, go_sem, k0, k1, k2, k3, k4, k5, k6, k7]) rfl ⟨rfl, kind_below HB.out⟩
set_option maxRecDepth 100000 in
theorem plainK_20 (w : World) : Calls Try.prog 29 #[.int .u8 20] w fun e w' => e = .returned (.agg #[.string ⟨#[110, 111, 110, 101]⟩, .int .u8 0, .bool false, .int .u8 0, .int .i64 0, .int .i64 1, .bool false, .bool false]) ∧ Below w.heap.size w w' := by
  go_enter Try.func29, Try.ntmps29
  go_wp2
  exact bodyPost_ret (v := .agg #[.string ⟨#[110, 111, 110, 101]⟩, .int .u8 0, .bool false, .int .u8 0, .int .i64 0, .int .i64 1, .bool false, .bool false]) (by simp [results, Try.results29, go_sem]) rfl ⟨rfl, (Below.refl _ _).alloc (Nat.le_refl _) _⟩
set_option maxRecDepth 100000 in
theorem kind_20 (w : World) : Calls Try.prog 15 #[.int .u8 20] w fun e w' => e = .returned (.agg #[.string ⟨#[110, 111, 110, 101]⟩, .int .u8 0, .bool false, .int .u8 0, .int .i64 0, .int .i64 1, .bool false, .bool false]) ∧ Below w.heap.size w w' := by
  go_enter Try.func15, Try.ntmps15
  go_wp2_with fail
  refine (plainK_20 _).mono ?_
  rintro e w1 ⟨rfl, hb⟩
  have B1 : Below w.heap.size w w1 := ((Below.refl _ w).alloc (Nat.le_refl _) _).trans (hb.mono (by simp))
  obtain ⟨⟨k0, k1, k2, k3, k4, k5, k6, k7⟩, f0, f1, f2, f3, f4, f5, f6, f7⟩ := kind_zero hb
  have HB := Lib.hid B1; clear B1 hb
  go_wp2_with fail
  exact bodyPost_ret (v := .agg #[.string ⟨#[110, 111, 110, 101]⟩, .int .u8 0, .bool false, .int .u8 0, .int .i64 0, .int .i64 1, .bool false, .bool false]) (by simp [results, Try.results15, go_sem, k0, k1, k2, k3, k4, k5, k6, k7]) rfl ⟨rfl, kind_below HB.out⟩
set_option maxRecDepth 100000 in
theorem plainK_21 (w : World) : Calls Try.prog 29 #[.int .u8 21] w fun e w' => e = .returned (.agg #[.string ⟨#[116, 114, 117, 101]⟩, .int .u8 0, .bool false, .int .u8 0, .int .i64 0, .int .i64 1, .bool false, .bool false]) ∧ Below w.heap.size w w' := by
  go_enter Try.func29, Try.ntmps29
  go_wp2
  exact bodyPost_ret (v := .agg #[.string ⟨#[116, 114, 117, 101]⟩, .int .u8 0, .bool false, .int .u8 0, .int .i64 0, .int .i64 1, .bool false, .bool false]) (by simp [results, Try.results29, go_sem]) rfl ⟨rfl, (Below.refl _ _).alloc (Nat.le_refl _) _⟩
set_option maxRecDepth 100000 in
theorem kind_21 (w : World) : Calls Try.prog 15 #[.int .u8 21] w fun e w' => e = .returned (.agg #[.string ⟨#[116, 114, 117, 101]⟩, .int .u8 0, .bool false, .int .u8 0, .int .i64 0, .int .i64 1, .bool false, .bool false]) ∧ Below w.heap.size w w' := by
  go_enter Try.func15, Try.ntmps15
  go_wp2_with fail
  refine (plainK_21 _).mono ?_
  rintro e w1 ⟨rfl, hb⟩
  have B1 : Below w.heap.size w w1 := ((Below.refl _ w).alloc (Nat.le_refl _) _).trans (hb.mono (by simp))
  obtain ⟨⟨k0, k1, k2, k3, k4, k5, k6, k7⟩, f0, f1, f2, f3, f4, f5, f6, f7⟩ := kind_zero hb
  have HB := Lib.hid B1; clear B1 hb
  go_wp2_with fail
  exact bodyPost_ret (v := .agg #[.string ⟨#[116, 114, 117, 101]⟩, .int .u8 0, .bool false, .int .u8 0, .int .i64 0, .int .i64 1, .bool false, .bool false]) (by simp [results, Try.results15, go_sem, k0, k1, k2, k3, k4, k5, k6, k7]) rfl ⟨rfl, kind_below HB.out⟩
set_option maxRecDepth 100000 in
theorem plainK_22 (w : World) : Calls Try.prog 29 #[.int .u8 22] w fun e w' => e = .returned (.agg #[.string ⟨#[102, 97, 108, 115, 101]⟩, .int .u8 0, .bool false, .int .u8 0, .int .i64 0, .int .i64 1, .bool false, .bool false]) ∧ Below w.heap.size w w' := by
  go_enter Try.func29, Try.ntmps29
  go_wp2
  exact bodyPost_ret (v := .agg #[.string ⟨#[102, 97, 108, 115, 101]⟩, .int .u8 0, .bool false, .int .u8 0, .int .i64 0, .int .i64 1, .bool false, .bool false]) (by simp [results, Try.results29, go_sem]) rfl ⟨rfl, (Below.refl _ _).alloc (Nat.le_refl _) _⟩
set_option maxRecDepth 100000 in
theorem kind_22 (w : World) : Calls Try.prog 15 #[.int .u8 22] w fun e w' => e = .returned (.agg #[.string ⟨#[102, 97, 108, 115, 101]⟩, .int .u8 0, .bool false, .int .u8 0, .int .i64 0, .int .i64 1, .bool false, .bool false]) ∧ Below w.heap.size w w' := by
  go_enter Try.func15, Try.ntmps15
  go_wp2_with fail
  refine (plainK_22 _).mono ?_
  rintro e w1 ⟨rfl, hb⟩
  have B1 : Below w.heap.size w w1 := ((Below.refl _ w).alloc (Nat.le_refl _) _).trans (hb.mono (by simp))
  obtain ⟨⟨k0, k1, k2, k3, k4, k5, k6, k7⟩, f0, f1, f2, f3, f4, f5, f6, f7⟩ := kind_zero hb
  have HB := Lib.hid B1; clear B1 hb
  go_wp2_with fail
  exact bodyPost_ret (v := .agg #[.string ⟨#[102, 97, 108, 115, 101]⟩, .int .u8 0, .bool false, .int .u8 0, .int .i64 0, .int .i64 1, .bool false, .bool false]) (by simp [results, Try.results15, go_sem, k0, k1, k2, k3, k4, k5, k6, k7]) rfl ⟨rfl, kind_below HB.out⟩
set_option maxRecDepth 100000 in
theorem plainK_57 (w : World) : Calls Try.prog 29 #[.int .u8 57] w fun e w' => e = .returned (.agg #[.string ⟨#[118, 101, 114, 115, 105, 111, 110]⟩, .int .u8 0, .bool false, .int .u8 0, .int .i64 0, .int .i64 1, .bool false, .bool false]) ∧ Below w.heap.size w w' := by
  go_enter Try.func29, Try.ntmps29
  go_wp2
  exact bodyPost_ret (v := .agg #[.string ⟨#[118, 101, 114, 115, 105, 111, 110]⟩, .int .u8 0, .bool false, .int .u8 0, .int .i64 0, .int .i64 1, .bool false, .bool false]) (by simp [results, Try.results29, go_sem]) rfl ⟨rfl, (Below.refl _ _).alloc (Nat.le_refl _) _⟩
set_option maxRecDepth 100000 in
theorem kind_57 (w : World) : Calls Try.prog 15 #[.int .u8 57] w fun e w' => e = .returned (.agg #[.string ⟨#[118, 101, 114, 115, 105, 111, 110]⟩, .int .u8 0, .bool false, .int .u8 0, .int .i64 0, .int .i64 1, .bool false, .bool false]) ∧ Below w.heap.size w w' := by
  go_enter Try.func15, Try.ntmps15
  go_wp2_with fail
  refine (plainK_57 _).mono ?_
  rintro e w1 ⟨rfl, hb⟩
  have B1 : Below w.heap.size w w1 := ((Below.refl _ w).alloc (Nat.le_refl _) _).trans (hb.mono (by simp))
  obtain ⟨⟨k0, k1, k2, k3, k4, k5, k6, k7⟩, f0, f1, f2, f3, f4, f5, f6, f7⟩ := kind_zero hb
  have HB := Lib.hid B1; clear B1 hb
  go_wp2_with fail
  exact bodyPost_ret (v := .agg #[.string ⟨#[118, 101, 114, 115, 105, 111, 110]⟩, .int .u8 0, .bool false, .int .u8 0, .int .i64 0, .int .i64 1, .bool false, .bool false]) (by simp [results, Try.results15, go_sem, k0, k1, k2, k3, k4, k5, k6, k7]) rfl ⟨rfl, kind_below HB.out⟩
set_option maxRecDepth 100000 in
theorem plainK_52 (w : World) : Calls Try.prog 29 #[.int .u8 52] w fun e w' => e = .returned (.agg #[.string ⟨#[116, 105, 109, 101, 114]⟩, .int .u8 0, .bool false, .int .u8 0, .int .i64 1, .int .i64 1, .bool false, .bool false]) ∧ Below w.heap.size w w' := by
  go_enter Try.func29, Try.ntmps29
  go_wp2
  exact bodyPost_ret (v := .agg #[.string ⟨#[116, 105, 109, 101, 114]⟩, .int .u8 0, .bool false, .int .u8 0, .int .i64 1, .int .i64 1, .bool false, .bool false]) (by simp [results, Try.results29, go_sem]) rfl ⟨rfl, (Below.refl _ _).alloc (Nat.le_refl _) _⟩
set_option maxRecDepth 100000 in
theorem kind_52 (w : World) : Calls Try.prog 15 #[.int .u8 52] w fun e w' => e = .returned (.agg #[.string ⟨#[116, 105, 109, 101, 114]⟩, .int .u8 0, .bool false, .int .u8 0, .int .i64 1, .int .i64 1, .bool false, .bool false]) ∧ Below w.heap.size w w' := by
  go_enter Try.func15, Try.ntmps15
  go_wp2_with fail
  refine (plainK_52 _).mono ?_
  rintro e w1 ⟨rfl, hb⟩
  have B1 : Below w.heap.size w w1 := ((Below.refl _ w).alloc (Nat.le_refl _) _).trans (hb.mono (by simp))
  obtain ⟨⟨k0, k1, k2, k3, k4, k5, k6, k7⟩, f0, f1, f2, f3, f4, f5, f6, f7⟩ := kind_zero hb
  have HB := Lib.hid B1; clear B1 hb
  go_wp2_with fail
  exact bodyPost_ret (v := .agg #[.string ⟨#[116, 105, 109, 101, 114]⟩, .int .u8 0, .bool false, .int .u8 0, .int .i64 1, .int .i64 1, .bool false, .bool false]) (by simp [results, Try.results15, go_sem, k0, k1, k2, k3, k4, k5, k6, k7]) rfl ⟨rfl, kind_below HB.out⟩
set_option maxRecDepth 100000 in
theorem plainK_54 (w : World) : Calls Try.prog 29 #[.int .u8 54] w fun e w' => e = .returned (.agg #[.string ⟨#[97, 119, 97, 105, 116]⟩, .int .u8 0, .bool false, .int .u8 0, .int .i64 1, .int .i64 1, .bool false, .bool false]) ∧ Below w.heap.size w w' := by
  go_enter Try.func29, Try.ntmps29
  go_wp2
  exact bodyPost_ret (v := .agg #[.string ⟨#[97, 119, 97, 105, 116]⟩, .int .u8 0, .bool false, .int .u8 0, .int .i64 1, .int .i64 1, .bool false, .bool false]) (by simp [results, Try.results29, go_sem]) rfl ⟨rfl, (Below.refl _ _).alloc (Nat.le_refl _) _⟩
set_option maxRecDepth 100000 in
theorem kind_54 (w : World) : Calls Try.prog 15 #[.int .u8 54] w fun e w' => e = .returned (.agg #[.string ⟨#[97, 119, 97, 105, 116]⟩, .int .u8 0, .bool false, .int .u8 0, .int .i64 1, .int .i64 1, .bool false, .bool false]) ∧ Below w.heap.size w w' := by
  go_enter Try.func15, Try.ntmps15
  go_wp2_with fail
  refine (plainK_54 _).mono ?_
  rintro e w1 ⟨rfl, hb⟩
  have B1 : Below w.heap.size w w1 := ((Below.refl _ w).alloc (Nat.le_refl _) _).trans (hb.mono (by simp))
  obtain ⟨⟨k0, k1, k2, k3, k4, k5, k6, k7⟩, f0, f1, f2, f3, f4, f5, f6, f7⟩ := kind_zero hb
  have HB := Lib.hid B1; clear B1 hb
  go_wp2_with fail
  exact bodyPost_ret (v := .agg #[.string ⟨#[97, 119, 97, 105, 116]⟩, .int .u8 0, .bool false, .int .u8 0, .int .i64 1, .int .i64 1, .bool false, .bool false]) (by simp [results, Try.results15, go_sem, k0, k1, k2, k3, k4, k5, k6, k7]) rfl ⟨rfl, kind_below HB.out⟩
set_option maxRecDepth 100000 in
theorem plainK_55 (w : World) : Calls Try.prog 29 #[.int .u8 55] w fun e w' => e = .returned (.agg #[.string ⟨#[115, 101, 116, 116, 108, 101]⟩, .int .u8 0, .bool false, .int .u8 0, .int .i64 1, .int .i64 1, .bool false, .bool false]) ∧ Below w.heap.size w w' := by
  go_enter Try.func29, Try.ntmps29
  go_wp2
  exact bodyPost_ret (v := .agg #[.string ⟨#[115, 101, 116, 116, 108, 101]⟩, .int .u8 0, .bool false, .int .u8 0, .int .i64 1, .int .i64 1, .bool false, .bool false]) (by simp [results, Try.results29, go_sem]) rfl ⟨rfl, (Below.refl _ _).alloc (Nat.le_refl _) _⟩
set_option maxRecDepth 100000 in
theorem kind_55 (w : World) : Calls Try.prog 15 #[.int .u8 55] w fun e w' => e = .returned (.agg #[.string ⟨#[115, 101, 116, 116, 108, 101]⟩, .int .u8 0, .bool false, .int .u8 0, .int .i64 1, .int .i64 1, .bool false, .bool false]) ∧ Below w.heap.size w w' := by
  go_enter Try.func15, Try.ntmps15
  go_wp2_with fail
  refine (plainK_55 _).mono ?_
  rintro e w1 ⟨rfl, hb⟩
  have B1 : Below w.heap.size w w1 := ((Below.refl _ w).alloc (Nat.le_refl _) _).trans (hb.mono (by simp))
  obtain ⟨⟨k0, k1, k2, k3, k4, k5, k6, k7⟩, f0, f1, f2, f3, f4, f5, f6, f7⟩ := kind_zero hb
  have HB := Lib.hid B1; clear B1 hb
  go_wp2_with fail
  exact bodyPost_ret (v := .agg #[.string ⟨#[115, 101, 116, 116, 108, 101]⟩, .int .u8 0, .bool false, .int .u8 0, .int .i64 1, .int .i64 1, .bool false, .bool false]) (by simp [results, Try.results15, go_sem, k0, k1, k2, k3, k4, k5, k6, k7]) rfl ⟨rfl, kind_below HB.out⟩
end Go.Proofs.Ytkpgnopimnamfaa
