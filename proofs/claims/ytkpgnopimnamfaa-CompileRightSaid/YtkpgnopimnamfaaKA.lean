/- kindOf, number by number, the first ones. -/
import Derived.Test.YtkpgnopimnamfaaHA
namespace Go.Proofs.Ytkpgnopimnamfaa
open Go.ChangeShapes Go.WideShapes Go.ChangeAt Go.RowKit
theorem kind_below {w w1 : World} {v0 v1 v2 v3 v4 v5 v6 v7 : Value} (h : Below w.heap.size w w1) : Below w.heap.size w ((((((((w1.setCell ⟨w.heap.size, 0, none⟩ v0).setCell ⟨w.heap.size, 1, none⟩ v1).setCell ⟨w.heap.size, 2, none⟩ v2).setCell ⟨w.heap.size, 3, none⟩ v3).setCell ⟨w.heap.size, 4, none⟩ v4).setCell ⟨w.heap.size, 5, none⟩ v5).setCell ⟨w.heap.size, 6, none⟩ v6).setCell ⟨w.heap.size, 7, none⟩ v7) :=
  (((((((h.setCell (Nat.le_refl _) _).setCell (Nat.le_refl _) _).setCell (Nat.le_refl _) _).setCell (Nat.le_refl _) _).setCell (Nat.le_refl _) _).setCell (Nat.le_refl _) _).setCell (Nat.le_refl _) _).setCell (Nat.le_refl _) _
theorem kind_zero {w w1 : World} (hb : Below (w.alloc (.cells #[.string ⟨#[]⟩, .int .u8 0, .bool false, .int .u8 0, .int .i64 0, .int .i64 0, .bool false, .bool false] 53)).heap.size (w.alloc (.cells #[.string ⟨#[]⟩, .int .u8 0, .bool false, .int .u8 0, .int .i64 0, .int .i64 0, .bool false, .bool false] 53)) w1) :
    (w1.cell? ⟨w.heap.size, 0, none⟩ = some (.string ⟨#[]⟩) ∧ w1.cell? ⟨w.heap.size, 1, none⟩ = some (.int .u8 0) ∧ w1.cell? ⟨w.heap.size, 2, none⟩ = some (.bool false) ∧ w1.cell? ⟨w.heap.size, 3, none⟩ = some (.int .u8 0) ∧ w1.cell? ⟨w.heap.size, 4, none⟩ = some (.int .i64 0) ∧ w1.cell? ⟨w.heap.size, 5, none⟩ = some (.int .i64 0) ∧ w1.cell? ⟨w.heap.size, 6, none⟩ = some (.bool false) ∧ w1.cell? ⟨w.heap.size, 7, none⟩ = some (.bool false)) ∧
    w1.frozen? ⟨w.heap.size, 0, none⟩ = false ∧ w1.frozen? ⟨w.heap.size, 1, none⟩ = false ∧ w1.frozen? ⟨w.heap.size, 2, none⟩ = false ∧ w1.frozen? ⟨w.heap.size, 3, none⟩ = false ∧ w1.frozen? ⟨w.heap.size, 4, none⟩ = false ∧ w1.frozen? ⟨w.heap.size, 5, none⟩ = false ∧ w1.frozen? ⟨w.heap.size, 6, none⟩ = false ∧ w1.frozen? ⟨w.heap.size, 7, none⟩ = false := by
  have hbx := (hb.block w.heap.size (by simp)).trans (MapKept.heap_alloc w _).1
  have f : ∀ j, w1.frozen? ⟨w.heap.size, j, none⟩ = false := fun j => by unfold World.frozen?; rw [hbx]; simp
  exact ⟨⟨(cell_block hbx).trans rfl, (cell_block hbx).trans rfl, (cell_block hbx).trans rfl, (cell_block hbx).trans rfl, (cell_block hbx).trans rfl, (cell_block hbx).trans rfl, (cell_block hbx).trans rfl, (cell_block hbx).trans rfl⟩, f _, f _, f _, f _, f _, f _, f _, f _⟩
end Go.Proofs.Ytkpgnopimnamfaa
namespace Go.Proofs.Ytkpgnopimnamfaa
open Go.ChangeShapes Go.WideShapes Go.ChangeAt Go.RowKit
theorem kind_1 (w : World) : Calls Try.prog 15 #[.int .u8 1] w fun e w' => e = .returned (.agg #[.string ⟨#[106, 117, 109, 112]⟩, .int .u8 116, .bool false, .int .u8 0, .int .i64 0, .int .i64 0, .bool false, .bool false]) ∧ Below w.heap.size w w' := by
  go_enter Try.func15, Try.ntmps15
  go_wp2_with fail
  exact bodyPost_ret (v := .agg #[.string ⟨#[106, 117, 109, 112]⟩, .int .u8 116, .bool false, .int .u8 0, .int .i64 0, .int .i64 0, .bool false, .bool false]) (by simp [results, Try.results15, go_sem]) rfl ⟨rfl, (Below.refl _ _).alloc (Nat.le_refl _) _⟩
theorem kind_2 (w : World) : Calls Try.prog 15 #[.int .u8 2] w fun e w' => e = .returned (.agg #[.string ⟨#[98, 114, 97, 110, 99, 104]⟩, .int .u8 116, .bool false, .int .u8 0, .int .i64 1, .int .i64 0, .bool false, .bool false]) ∧ Below w.heap.size w w' := by
  go_enter Try.func15, Try.ntmps15
  go_wp2_with fail
  exact bodyPost_ret (v := .agg #[.string ⟨#[98, 114, 97, 110, 99, 104]⟩, .int .u8 116, .bool false, .int .u8 0, .int .i64 1, .int .i64 0, .bool false, .bool false]) (by simp [results, Try.results15, go_sem]) rfl ⟨rfl, (Below.refl _ _).alloc (Nat.le_refl _) _⟩
theorem kind_3 (w : World) : Calls Try.prog 15 #[.int .u8 3] w fun e w' => e = .returned (.agg #[.string ⟨#[111, 114]⟩, .int .u8 116, .bool false, .int .u8 0, .int .i64 1, .int .i64 0, .bool false, .bool false]) ∧ Below w.heap.size w w' := by
  go_enter Try.func15, Try.ntmps15
  go_wp2_with fail
  exact bodyPost_ret (v := .agg #[.string ⟨#[111, 114]⟩, .int .u8 116, .bool false, .int .u8 0, .int .i64 1, .int .i64 0, .bool false, .bool false]) (by simp [results, Try.results15, go_sem]) rfl ⟨rfl, (Below.refl _ _).alloc (Nat.le_refl _) _⟩
theorem kind_4 (w : World) : Calls Try.prog 15 #[.int .u8 4] w fun e w' => e = .returned (.agg #[.string ⟨#[97, 110, 100]⟩, .int .u8 116, .bool false, .int .u8 0, .int .i64 1, .int .i64 0, .bool false, .bool false]) ∧ Below w.heap.size w w' := by
  go_enter Try.func15, Try.ntmps15
  go_wp2_with fail
  exact bodyPost_ret (v := .agg #[.string ⟨#[97, 110, 100]⟩, .int .u8 116, .bool false, .int .u8 0, .int .i64 1, .int .i64 0, .bool false, .bool false]) (by simp [results, Try.results15, go_sem]) rfl ⟨rfl, (Below.refl _ _).alloc (Nat.le_refl _) _⟩
theorem kind_8 (w : World) : Calls Try.prog 15 #[.int .u8 8] w fun e w' => e = .returned (.agg #[.string ⟨#[114, 101, 116, 117, 114, 110]⟩, .int .u8 0, .bool false, .int .u8 0, .int .i64 1, .int .i64 0, .bool false, .bool true]) ∧ Below w.heap.size w w' := by
  go_enter Try.func15, Try.ntmps15
  go_wp2_with fail
  exact bodyPost_ret (v := .agg #[.string ⟨#[114, 101, 116, 117, 114, 110]⟩, .int .u8 0, .bool false, .int .u8 0, .int .i64 1, .int .i64 0, .bool false, .bool true]) (by simp [results, Try.results15, go_sem]) rfl ⟨rfl, (Below.refl _ _).alloc (Nat.le_refl _) _⟩
theorem kind_9 (w : World) : Calls Try.prog 15 #[.int .u8 9] w fun e w' => e = .returned (.agg #[.string ⟨#[102, 97, 105, 108]⟩, .int .u8 0, .bool false, .int .u8 0, .int .i64 1, .int .i64 0, .bool false, .bool true]) ∧ Below w.heap.size w w' := by
  go_enter Try.func15, Try.ntmps15
  go_wp2_with fail
  exact bodyPost_ret (v := .agg #[.string ⟨#[102, 97, 105, 108]⟩, .int .u8 0, .bool false, .int .u8 0, .int .i64 1, .int .i64 0, .bool false, .bool true]) (by simp [results, Try.results15, go_sem]) rfl ⟨rfl, (Below.refl _ _).alloc (Nat.le_refl _) _⟩
theorem kind_23 (w : World) : Calls Try.prog 15 #[.int .u8 23] w fun e w' => e = .returned (.agg #[.string ⟨#[105, 110, 116]⟩, .int .u8 0, .bool true, .int .u8 0, .int .i64 0, .int .i64 1, .bool false, .bool false]) ∧ Below w.heap.size w w' := by
  go_enter Try.func15, Try.ntmps15
  go_wp2_with fail
  exact bodyPost_ret (v := .agg #[.string ⟨#[105, 110, 116]⟩, .int .u8 0, .bool true, .int .u8 0, .int .i64 0, .int .i64 1, .bool false, .bool false]) (by simp [results, Try.results15, go_sem]) rfl ⟨rfl, (Below.refl _ _).alloc (Nat.le_refl _) _⟩
theorem kind_24 (w : World) : Calls Try.prog 15 #[.int .u8 24] w fun e w' => e = .returned (.agg #[.string ⟨#[116, 101, 120, 116]⟩, .int .u8 0, .bool false, .int .u8 120, .int .i64 0, .int .i64 1, .bool false, .bool false]) ∧ Below w.heap.size w w' := by
  go_enter Try.func15, Try.ntmps15
  go_wp2_with fail
  exact bodyPost_ret (v := .agg #[.string ⟨#[116, 101, 120, 116]⟩, .int .u8 0, .bool false, .int .u8 120, .int .i64 0, .int .i64 1, .bool false, .bool false]) (by simp [results, Try.results15, go_sem]) rfl ⟨rfl, (Below.refl _ _).alloc (Nat.le_refl _) _⟩
set_option maxRecDepth 100000 in
theorem plainK_32 (w : World) : Calls Try.prog 29 #[.int .u8 32] w fun e w' => e = .returned (.agg #[.string ⟨#[101, 113]⟩, .int .u8 0, .bool false, .int .u8 0, .int .i64 2, .int .i64 1, .bool false, .bool false]) ∧ Below w.heap.size w w' := by
  have hidx : ∀ w : World, (Instr.index 88 (.agg #[.string ⟨#[101, 113]⟩, .string ⟨#[110, 101]⟩, .string ⟨#[108, 116]⟩, .string ⟨#[108, 101]⟩, .string ⟨#[97, 100, 100]⟩, .string ⟨#[115, 117, 98]⟩, .string ⟨#[109, 117, 108]⟩, .string ⟨#[100, 105, 118]⟩, .string ⟨#[109, 111, 100]⟩, .string ⟨#[110, 117, 109]⟩, .string ⟨#[97, 116]⟩, .string ⟨#[110, 111, 116]⟩, .string ⟨#[110, 101, 103]⟩, .string ⟨#[108, 101, 110]⟩, .string ⟨#[114, 101]⟩, .string ⟨#[105, 109]⟩, .string ⟨#[99, 111, 110, 106]⟩]) (.int .u8 0)).run Try.prog w = .ok (.string ⟨#[101, 113]⟩) w := fun _ => by kernel_rfl
  go_enter Try.func29, Try.ntmps29
  go_wp2
  exact bodyPost_ret (v := .agg #[.string ⟨#[101, 113]⟩, .int .u8 0, .bool false, .int .u8 0, .int .i64 2, .int .i64 1, .bool false, .bool false]) (by simp [results, Try.results29, go_sem]) rfl ⟨rfl, (Below.refl _ _).alloc (Nat.le_refl _) _⟩
set_option maxRecDepth 100000 in
theorem kind_32 (w : World) : Calls Try.prog 15 #[.int .u8 32] w fun e w' => e = .returned (.agg #[.string ⟨#[101, 113]⟩, .int .u8 0, .bool false, .int .u8 0, .int .i64 2, .int .i64 1, .bool false, .bool false]) ∧ Below w.heap.size w w' := by
  go_enter Try.func15, Try.ntmps15
  go_wp2_with fail
  refine (plainK_32 _).mono ?_
  rintro e w1 ⟨rfl, hb⟩
  have B1 : Below w.heap.size w w1 := ((Below.refl _ w).alloc (Nat.le_refl _) _).trans (hb.mono (by simp))
  obtain ⟨⟨k0, k1, k2, k3, k4, k5, k6, k7⟩, f0, f1, f2, f3, f4, f5, f6, f7⟩ := kind_zero hb
  have HB := Lib.hid B1; clear B1 hb
  go_wp2_with fail
  exact bodyPost_ret (v := .agg #[.string ⟨#[101, 113]⟩, .int .u8 0, .bool false, .int .u8 0, .int .i64 2, .int .i64 1, .bool false, .bool false]) (by simp [results, Try.results15, go_sem, k0, k1, k2, k3, k4, k5, k6, k7]) rfl ⟨rfl, kind_below HB.out⟩
set_option maxRecDepth 100000 in
theorem plainK_33 (w : World) : Calls Try.prog 29 #[.int .u8 33] w fun e w' => e = .returned (.agg #[.string ⟨#[110, 101]⟩, .int .u8 0, .bool false, .int .u8 0, .int .i64 2, .int .i64 1, .bool false, .bool false]) ∧ Below w.heap.size w w' := by
  have hidx : ∀ w : World, (Instr.index 88 (.agg #[.string ⟨#[101, 113]⟩, .string ⟨#[110, 101]⟩, .string ⟨#[108, 116]⟩, .string ⟨#[108, 101]⟩, .string ⟨#[97, 100, 100]⟩, .string ⟨#[115, 117, 98]⟩, .string ⟨#[109, 117, 108]⟩, .string ⟨#[100, 105, 118]⟩, .string ⟨#[109, 111, 100]⟩, .string ⟨#[110, 117, 109]⟩, .string ⟨#[97, 116]⟩, .string ⟨#[110, 111, 116]⟩, .string ⟨#[110, 101, 103]⟩, .string ⟨#[108, 101, 110]⟩, .string ⟨#[114, 101]⟩, .string ⟨#[105, 109]⟩, .string ⟨#[99, 111, 110, 106]⟩]) (.int .u8 1)).run Try.prog w = .ok (.string ⟨#[110, 101]⟩) w := fun _ => by kernel_rfl
  go_enter Try.func29, Try.ntmps29
  go_wp2
  exact bodyPost_ret (v := .agg #[.string ⟨#[110, 101]⟩, .int .u8 0, .bool false, .int .u8 0, .int .i64 2, .int .i64 1, .bool false, .bool false]) (by simp [results, Try.results29, go_sem]) rfl ⟨rfl, (Below.refl _ _).alloc (Nat.le_refl _) _⟩
set_option maxRecDepth 100000 in
theorem kind_33 (w : World) : Calls Try.prog 15 #[.int .u8 33] w fun e w' => e = .returned (.agg #[.string ⟨#[110, 101]⟩, .int .u8 0, .bool false, .int .u8 0, .int .i64 2, .int .i64 1, .bool false, .bool false]) ∧ Below w.heap.size w w' := by
  go_enter Try.func15, Try.ntmps15
  go_wp2_with fail
  refine (plainK_33 _).mono ?_
  rintro e w1 ⟨rfl, hb⟩
  have B1 : Below w.heap.size w w1 := ((Below.refl _ w).alloc (Nat.le_refl _) _).trans (hb.mono (by simp))
  obtain ⟨⟨k0, k1, k2, k3, k4, k5, k6, k7⟩, f0, f1, f2, f3, f4, f5, f6, f7⟩ := kind_zero hb
  have HB := Lib.hid B1; clear B1 hb
  go_wp2_with fail
  exact bodyPost_ret (v := .agg #[.string ⟨#[110, 101]⟩, .int .u8 0, .bool false, .int .u8 0, .int .i64 2, .int .i64 1, .bool false, .bool false]) (by simp [results, Try.results15, go_sem, k0, k1, k2, k3, k4, k5, k6, k7]) rfl ⟨rfl, kind_below HB.out⟩
set_option maxRecDepth 100000 in
theorem plainK_34 (w : World) : Calls Try.prog 29 #[.int .u8 34] w fun e w' => e = .returned (.agg #[.string ⟨#[108, 116]⟩, .int .u8 0, .bool false, .int .u8 0, .int .i64 2, .int .i64 1, .bool false, .bool false]) ∧ Below w.heap.size w w' := by
  have hidx : ∀ w : World, (Instr.index 88 (.agg #[.string ⟨#[101, 113]⟩, .string ⟨#[110, 101]⟩, .string ⟨#[108, 116]⟩, .string ⟨#[108, 101]⟩, .string ⟨#[97, 100, 100]⟩, .string ⟨#[115, 117, 98]⟩, .string ⟨#[109, 117, 108]⟩, .string ⟨#[100, 105, 118]⟩, .string ⟨#[109, 111, 100]⟩, .string ⟨#[110, 117, 109]⟩, .string ⟨#[97, 116]⟩, .string ⟨#[110, 111, 116]⟩, .string ⟨#[110, 101, 103]⟩, .string ⟨#[108, 101, 110]⟩, .string ⟨#[114, 101]⟩, .string ⟨#[105, 109]⟩, .string ⟨#[99, 111, 110, 106]⟩]) (.int .u8 2)).run Try.prog w = .ok (.string ⟨#[108, 116]⟩) w := fun _ => by kernel_rfl
  go_enter Try.func29, Try.ntmps29
  go_wp2
  exact bodyPost_ret (v := .agg #[.string ⟨#[108, 116]⟩, .int .u8 0, .bool false, .int .u8 0, .int .i64 2, .int .i64 1, .bool false, .bool false]) (by simp [results, Try.results29, go_sem]) rfl ⟨rfl, (Below.refl _ _).alloc (Nat.le_refl _) _⟩
set_option maxRecDepth 100000 in
theorem kind_34 (w : World) : Calls Try.prog 15 #[.int .u8 34] w fun e w' => e = .returned (.agg #[.string ⟨#[108, 116]⟩, .int .u8 0, .bool false, .int .u8 0, .int .i64 2, .int .i64 1, .bool false, .bool false]) ∧ Below w.heap.size w w' := by
  go_enter Try.func15, Try.ntmps15
  go_wp2_with fail
  refine (plainK_34 _).mono ?_
  rintro e w1 ⟨rfl, hb⟩
  have B1 : Below w.heap.size w w1 := ((Below.refl _ w).alloc (Nat.le_refl _) _).trans (hb.mono (by simp))
  obtain ⟨⟨k0, k1, k2, k3, k4, k5, k6, k7⟩, f0, f1, f2, f3, f4, f5, f6, f7⟩ := kind_zero hb
  have HB := Lib.hid B1; clear B1 hb
  go_wp2_with fail
  exact bodyPost_ret (v := .agg #[.string ⟨#[108, 116]⟩, .int .u8 0, .bool false, .int .u8 0, .int .i64 2, .int .i64 1, .bool false, .bool false]) (by simp [results, Try.results15, go_sem, k0, k1, k2, k3, k4, k5, k6, k7]) rfl ⟨rfl, kind_below HB.out⟩
set_option maxRecDepth 100000 in
theorem plainK_35 (w : World) : Calls Try.prog 29 #[.int .u8 35] w fun e w' => e = .returned (.agg #[.string ⟨#[108, 101]⟩, .int .u8 0, .bool false, .int .u8 0, .int .i64 2, .int .i64 1, .bool false, .bool false]) ∧ Below w.heap.size w w' := by
  have hidx : ∀ w : World, (Instr.index 88 (.agg #[.string ⟨#[101, 113]⟩, .string ⟨#[110, 101]⟩, .string ⟨#[108, 116]⟩, .string ⟨#[108, 101]⟩, .string ⟨#[97, 100, 100]⟩, .string ⟨#[115, 117, 98]⟩, .string ⟨#[109, 117, 108]⟩, .string ⟨#[100, 105, 118]⟩, .string ⟨#[109, 111, 100]⟩, .string ⟨#[110, 117, 109]⟩, .string ⟨#[97, 116]⟩, .string ⟨#[110, 111, 116]⟩, .string ⟨#[110, 101, 103]⟩, .string ⟨#[108, 101, 110]⟩, .string ⟨#[114, 101]⟩, .string ⟨#[105, 109]⟩, .string ⟨#[99, 111, 110, 106]⟩]) (.int .u8 3)).run Try.prog w = .ok (.string ⟨#[108, 101]⟩) w := fun _ => by kernel_rfl
  go_enter Try.func29, Try.ntmps29
  go_wp2
  exact bodyPost_ret (v := .agg #[.string ⟨#[108, 101]⟩, .int .u8 0, .bool false, .int .u8 0, .int .i64 2, .int .i64 1, .bool false, .bool false]) (by simp [results, Try.results29, go_sem]) rfl ⟨rfl, (Below.refl _ _).alloc (Nat.le_refl _) _⟩
set_option maxRecDepth 100000 in
theorem kind_35 (w : World) : Calls Try.prog 15 #[.int .u8 35] w fun e w' => e = .returned (.agg #[.string ⟨#[108, 101]⟩, .int .u8 0, .bool false, .int .u8 0, .int .i64 2, .int .i64 1, .bool false, .bool false]) ∧ Below w.heap.size w w' := by
  go_enter Try.func15, Try.ntmps15
  go_wp2_with fail
  refine (plainK_35 _).mono ?_
  rintro e w1 ⟨rfl, hb⟩
  have B1 : Below w.heap.size w w1 := ((Below.refl _ w).alloc (Nat.le_refl _) _).trans (hb.mono (by simp))
  obtain ⟨⟨k0, k1, k2, k3, k4, k5, k6, k7⟩, f0, f1, f2, f3, f4, f5, f6, f7⟩ := kind_zero hb
  have HB := Lib.hid B1; clear B1 hb
  go_wp2_with fail
  exact bodyPost_ret (v := .agg #[.string ⟨#[108, 101]⟩, .int .u8 0, .bool false, .int .u8 0, .int .i64 2, .int .i64 1, .bool false, .bool false]) (by simp [results, Try.results15, go_sem, k0, k1, k2, k3, k4, k5, k6, k7]) rfl ⟨rfl, kind_below HB.out⟩
set_option maxRecDepth 100000 in
theorem plainK_36 (w : World) : Calls Try.prog 29 #[.int .u8 36] w fun e w' => e = .returned (.agg #[.string ⟨#[97, 100, 100]⟩, .int .u8 0, .bool false, .int .u8 0, .int .i64 2, .int .i64 1, .bool false, .bool false]) ∧ Below w.heap.size w w' := by
  have hidx : ∀ w : World, (Instr.index 88 (.agg #[.string ⟨#[101, 113]⟩, .string ⟨#[110, 101]⟩, .string ⟨#[108, 116]⟩, .string ⟨#[108, 101]⟩, .string ⟨#[97, 100, 100]⟩, .string ⟨#[115, 117, 98]⟩, .string ⟨#[109, 117, 108]⟩, .string ⟨#[100, 105, 118]⟩, .string ⟨#[109, 111, 100]⟩, .string ⟨#[110, 117, 109]⟩, .string ⟨#[97, 116]⟩, .string ⟨#[110, 111, 116]⟩, .string ⟨#[110, 101, 103]⟩, .string ⟨#[108, 101, 110]⟩, .string ⟨#[114, 101]⟩, .string ⟨#[105, 109]⟩, .string ⟨#[99, 111, 110, 106]⟩]) (.int .u8 4)).run Try.prog w = .ok (.string ⟨#[97, 100, 100]⟩) w := fun _ => by kernel_rfl
  go_enter Try.func29, Try.ntmps29
  go_wp2
  exact bodyPost_ret (v := .agg #[.string ⟨#[97, 100, 100]⟩, .int .u8 0, .bool false, .int .u8 0, .int .i64 2, .int .i64 1, .bool false, .bool false]) (by simp [results, Try.results29, go_sem]) rfl ⟨rfl, (Below.refl _ _).alloc (Nat.le_refl _) _⟩
set_option maxRecDepth 100000 in
theorem kind_36 (w : World) : Calls Try.prog 15 #[.int .u8 36] w fun e w' => e = .returned (.agg #[.string ⟨#[97, 100, 100]⟩, .int .u8 0, .bool false, .int .u8 0, .int .i64 2, .int .i64 1, .bool false, .bool false]) ∧ Below w.heap.size w w' := by
  go_enter Try.func15, Try.ntmps15
  go_wp2_with fail
  refine (plainK_36 _).mono ?_
  rintro e w1 ⟨rfl, hb⟩
  have B1 : Below w.heap.size w w1 := ((Below.refl _ w).alloc (Nat.le_refl _) _).trans (hb.mono (by simp))
  obtain ⟨⟨k0, k1, k2, k3, k4, k5, k6, k7⟩, f0, f1, f2, f3, f4, f5, f6, f7⟩ := kind_zero hb
  have HB := Lib.hid B1; clear B1 hb
  go_wp2_with fail
  exact bodyPost_ret (v := .agg #[.string ⟨#[97, 100, 100]⟩, .int .u8 0, .bool false, .int .u8 0, .int .i64 2, .int .i64 1, .bool false, .bool false]) (by simp [results, Try.results15, go_sem, k0, k1, k2, k3, k4, k5, k6, k7]) rfl ⟨rfl, kind_below HB.out⟩
set_option maxRecDepth 100000 in
theorem plainK_37 (w : World) : Calls Try.prog 29 #[.int .u8 37] w fun e w' => e = .returned (.agg #[.string ⟨#[115, 117, 98]⟩, .int .u8 0, .bool false, .int .u8 0, .int .i64 2, .int .i64 1, .bool false, .bool false]) ∧ Below w.heap.size w w' := by
  have hidx : ∀ w : World, (Instr.index 88 (.agg #[.string ⟨#[101, 113]⟩, .string ⟨#[110, 101]⟩, .string ⟨#[108, 116]⟩, .string ⟨#[108, 101]⟩, .string ⟨#[97, 100, 100]⟩, .string ⟨#[115, 117, 98]⟩, .string ⟨#[109, 117, 108]⟩, .string ⟨#[100, 105, 118]⟩, .string ⟨#[109, 111, 100]⟩, .string ⟨#[110, 117, 109]⟩, .string ⟨#[97, 116]⟩, .string ⟨#[110, 111, 116]⟩, .string ⟨#[110, 101, 103]⟩, .string ⟨#[108, 101, 110]⟩, .string ⟨#[114, 101]⟩, .string ⟨#[105, 109]⟩, .string ⟨#[99, 111, 110, 106]⟩]) (.int .u8 5)).run Try.prog w = .ok (.string ⟨#[115, 117, 98]⟩) w := fun _ => by kernel_rfl
  go_enter Try.func29, Try.ntmps29
  go_wp2
  exact bodyPost_ret (v := .agg #[.string ⟨#[115, 117, 98]⟩, .int .u8 0, .bool false, .int .u8 0, .int .i64 2, .int .i64 1, .bool false, .bool false]) (by simp [results, Try.results29, go_sem]) rfl ⟨rfl, (Below.refl _ _).alloc (Nat.le_refl _) _⟩
set_option maxRecDepth 100000 in
theorem kind_37 (w : World) : Calls Try.prog 15 #[.int .u8 37] w fun e w' => e = .returned (.agg #[.string ⟨#[115, 117, 98]⟩, .int .u8 0, .bool false, .int .u8 0, .int .i64 2, .int .i64 1, .bool false, .bool false]) ∧ Below w.heap.size w w' := by
  go_enter Try.func15, Try.ntmps15
  go_wp2_with fail
  refine (plainK_37 _).mono ?_
  rintro e w1 ⟨rfl, hb⟩
  have B1 : Below w.heap.size w w1 := ((Below.refl _ w).alloc (Nat.le_refl _) _).trans (hb.mono (by simp))
  obtain ⟨⟨k0, k1, k2, k3, k4, k5, k6, k7⟩, f0, f1, f2, f3, f4, f5, f6, f7⟩ := kind_zero hb
  have HB := Lib.hid B1; clear B1 hb
  go_wp2_with fail
  exact bodyPost_ret (v := .agg #[.string ⟨#[115, 117, 98]⟩, .int .u8 0, .bool false, .int .u8 0, .int .i64 2, .int .i64 1, .bool false, .bool false]) (by simp [results, Try.results15, go_sem, k0, k1, k2, k3, k4, k5, k6, k7]) rfl ⟨rfl, kind_below HB.out⟩
set_option maxRecDepth 100000 in
theorem plainK_38 (w : World) : Calls Try.prog 29 #[.int .u8 38] w fun e w' => e = .returned (.agg #[.string ⟨#[109, 117, 108]⟩, .int .u8 0, .bool false, .int .u8 0, .int .i64 2, .int .i64 1, .bool false, .bool false]) ∧ Below w.heap.size w w' := by
  have hidx : ∀ w : World, (Instr.index 88 (.agg #[.string ⟨#[101, 113]⟩, .string ⟨#[110, 101]⟩, .string ⟨#[108, 116]⟩, .string ⟨#[108, 101]⟩, .string ⟨#[97, 100, 100]⟩, .string ⟨#[115, 117, 98]⟩, .string ⟨#[109, 117, 108]⟩, .string ⟨#[100, 105, 118]⟩, .string ⟨#[109, 111, 100]⟩, .string ⟨#[110, 117, 109]⟩, .string ⟨#[97, 116]⟩, .string ⟨#[110, 111, 116]⟩, .string ⟨#[110, 101, 103]⟩, .string ⟨#[108, 101, 110]⟩, .string ⟨#[114, 101]⟩, .string ⟨#[105, 109]⟩, .string ⟨#[99, 111, 110, 106]⟩]) (.int .u8 6)).run Try.prog w = .ok (.string ⟨#[109, 117, 108]⟩) w := fun _ => by kernel_rfl
  go_enter Try.func29, Try.ntmps29
  go_wp2
  exact bodyPost_ret (v := .agg #[.string ⟨#[109, 117, 108]⟩, .int .u8 0, .bool false, .int .u8 0, .int .i64 2, .int .i64 1, .bool false, .bool false]) (by simp [results, Try.results29, go_sem]) rfl ⟨rfl, (Below.refl _ _).alloc (Nat.le_refl _) _⟩
set_option maxRecDepth 100000 in
theorem kind_38 (w : World) : Calls Try.prog 15 #[.int .u8 38] w fun e w' => e = .returned (.agg #[.string ⟨#[109, 117, 108]⟩, .int .u8 0, .bool false, .int .u8 0, .int .i64 2, .int .i64 1, .bool false, .bool false]) ∧ Below w.heap.size w w' := by
  go_enter Try.func15, Try.ntmps15
  go_wp2_with fail
  refine (plainK_38 _).mono ?_
  rintro e w1 ⟨rfl, hb⟩
  have B1 : Below w.heap.size w w1 := ((Below.refl _ w).alloc (Nat.le_refl _) _).trans (hb.mono (by simp))
  obtain ⟨⟨k0, k1, k2, k3, k4, k5, k6, k7⟩, f0, f1, f2, f3, f4, f5, f6, f7⟩ := kind_zero hb
  have HB := Lib.hid B1; clear B1 hb
  go_wp2_with fail
  exact bodyPost_ret (v := .agg #[.string ⟨#[109, 117, 108]⟩, .int .u8 0, .bool false, .int .u8 0, .int .i64 2, .int .i64 1, .bool false, .bool false]) (by simp [results, Try.results15, go_sem, k0, k1, k2, k3, k4, k5, k6, k7]) rfl ⟨rfl, kind_below HB.out⟩
set_option maxRecDepth 100000 in
theorem plainK_39 (w : World) : Calls Try.prog 29 #[.int .u8 39] w fun e w' => e = .returned (.agg #[.string ⟨#[100, 105, 118]⟩, .int .u8 0, .bool false, .int .u8 0, .int .i64 2, .int .i64 1, .bool false, .bool false]) ∧ Below w.heap.size w w' := by
  have hidx : ∀ w : World, (Instr.index 88 (.agg #[.string ⟨#[101, 113]⟩, .string ⟨#[110, 101]⟩, .string ⟨#[108, 116]⟩, .string ⟨#[108, 101]⟩, .string ⟨#[97, 100, 100]⟩, .string ⟨#[115, 117, 98]⟩, .string ⟨#[109, 117, 108]⟩, .string ⟨#[100, 105, 118]⟩, .string ⟨#[109, 111, 100]⟩, .string ⟨#[110, 117, 109]⟩, .string ⟨#[97, 116]⟩, .string ⟨#[110, 111, 116]⟩, .string ⟨#[110, 101, 103]⟩, .string ⟨#[108, 101, 110]⟩, .string ⟨#[114, 101]⟩, .string ⟨#[105, 109]⟩, .string ⟨#[99, 111, 110, 106]⟩]) (.int .u8 7)).run Try.prog w = .ok (.string ⟨#[100, 105, 118]⟩) w := fun _ => by kernel_rfl
  go_enter Try.func29, Try.ntmps29
  go_wp2
  exact bodyPost_ret (v := .agg #[.string ⟨#[100, 105, 118]⟩, .int .u8 0, .bool false, .int .u8 0, .int .i64 2, .int .i64 1, .bool false, .bool false]) (by simp [results, Try.results29, go_sem]) rfl ⟨rfl, (Below.refl _ _).alloc (Nat.le_refl _) _⟩
set_option maxRecDepth 100000 in
theorem kind_39 (w : World) : Calls Try.prog 15 #[.int .u8 39] w fun e w' => e = .returned (.agg #[.string ⟨#[100, 105, 118]⟩, .int .u8 0, .bool false, .int .u8 0, .int .i64 2, .int .i64 1, .bool false, .bool false]) ∧ Below w.heap.size w w' := by
  go_enter Try.func15, Try.ntmps15
  go_wp2_with fail
  refine (plainK_39 _).mono ?_
  rintro e w1 ⟨rfl, hb⟩
  have B1 : Below w.heap.size w w1 := ((Below.refl _ w).alloc (Nat.le_refl _) _).trans (hb.mono (by simp))
  obtain ⟨⟨k0, k1, k2, k3, k4, k5, k6, k7⟩, f0, f1, f2, f3, f4, f5, f6, f7⟩ := kind_zero hb
  have HB := Lib.hid B1; clear B1 hb
  go_wp2_with fail
  exact bodyPost_ret (v := .agg #[.string ⟨#[100, 105, 118]⟩, .int .u8 0, .bool false, .int .u8 0, .int .i64 2, .int .i64 1, .bool false, .bool false]) (by simp [results, Try.results15, go_sem, k0, k1, k2, k3, k4, k5, k6, k7]) rfl ⟨rfl, kind_below HB.out⟩
set_option maxRecDepth 100000 in
theorem plainK_40 (w : World) : Calls Try.prog 29 #[.int .u8 40] w fun e w' => e = .returned (.agg #[.string ⟨#[109, 111, 100]⟩, .int .u8 0, .bool false, .int .u8 0, .int .i64 2, .int .i64 1, .bool false, .bool false]) ∧ Below w.heap.size w w' := by
  have hidx : ∀ w : World, (Instr.index 88 (.agg #[.string ⟨#[101, 113]⟩, .string ⟨#[110, 101]⟩, .string ⟨#[108, 116]⟩, .string ⟨#[108, 101]⟩, .string ⟨#[97, 100, 100]⟩, .string ⟨#[115, 117, 98]⟩, .string ⟨#[109, 117, 108]⟩, .string ⟨#[100, 105, 118]⟩, .string ⟨#[109, 111, 100]⟩, .string ⟨#[110, 117, 109]⟩, .string ⟨#[97, 116]⟩, .string ⟨#[110, 111, 116]⟩, .string ⟨#[110, 101, 103]⟩, .string ⟨#[108, 101, 110]⟩, .string ⟨#[114, 101]⟩, .string ⟨#[105, 109]⟩, .string ⟨#[99, 111, 110, 106]⟩]) (.int .u8 8)).run Try.prog w = .ok (.string ⟨#[109, 111, 100]⟩) w := fun _ => by kernel_rfl
  go_enter Try.func29, Try.ntmps29
  go_wp2
  exact bodyPost_ret (v := .agg #[.string ⟨#[109, 111, 100]⟩, .int .u8 0, .bool false, .int .u8 0, .int .i64 2, .int .i64 1, .bool false, .bool false]) (by simp [results, Try.results29, go_sem]) rfl ⟨rfl, (Below.refl _ _).alloc (Nat.le_refl _) _⟩
set_option maxRecDepth 100000 in
theorem kind_40 (w : World) : Calls Try.prog 15 #[.int .u8 40] w fun e w' => e = .returned (.agg #[.string ⟨#[109, 111, 100]⟩, .int .u8 0, .bool false, .int .u8 0, .int .i64 2, .int .i64 1, .bool false, .bool false]) ∧ Below w.heap.size w w' := by
  go_enter Try.func15, Try.ntmps15
  go_wp2_with fail
  refine (plainK_40 _).mono ?_
  rintro e w1 ⟨rfl, hb⟩
  have B1 : Below w.heap.size w w1 := ((Below.refl _ w).alloc (Nat.le_refl _) _).trans (hb.mono (by simp))
  obtain ⟨⟨k0, k1, k2, k3, k4, k5, k6, k7⟩, f0, f1, f2, f3, f4, f5, f6, f7⟩ := kind_zero hb
  have HB := Lib.hid B1; clear B1 hb
  go_wp2_with fail
  exact bodyPost_ret (v := .agg #[.string ⟨#[109, 111, 100]⟩, .int .u8 0, .bool false, .int .u8 0, .int .i64 2, .int .i64 1, .bool false, .bool false]) (by simp [results, Try.results15, go_sem, k0, k1, k2, k3, k4, k5, k6, k7]) rfl ⟨rfl, kind_below HB.out⟩
end Go.Proofs.Ytkpgnopimnamfaa
