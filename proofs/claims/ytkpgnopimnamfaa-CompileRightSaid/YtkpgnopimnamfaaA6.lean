/- tree.Check's walk. -/
import Derived.Test.YtkpgnopimnamfaaA5
namespace Go.Proofs.Ytkpgnopimnamfaa
open Go.ChangeShapes Go.WideShapes Go.ChangeAt Go.RowKit
/-- A pointer to a block's head. -/
abbrev pt (b : Nat) : Value := .pointer (some ⟨b, 0, none⟩)
theorem true_any (op : Int) (w : World) : Calls Try.prog 33 #[.int .u8 op] w fun e w' => e = .returned (.bool true) ∧ w = w' := by
  go_enter Try.func33, Try.ntmps33
  go_wp2
  go_ret
  exact ⟨rfl, rfl⟩
/-- A place's test, as tree.Check's walk hands it on. -/
def PartAt (w : World) (bF bI bX : Nat) (p : Nat) (i n : Int) : Prop :=
  (∃ t l m, w.heap[bF]? = some (.cells #[t, l, m, .func (.func p) #[] #[]] 78 (0, 0))) ∧ Boxed w bI 3 (.int .i64 i) ∧ (∃ x0 x2 x3, w.heap[bX]? = some (.cells #[x0, .int .i64 n, x2, x3] 31 (0, 0)))
  ∧ (p = 40 ∨ p = 41 ∨ p = 43 ∨ p = 44 ∨ p = 46 ∨ p = 47) ∧ 0 ≤ i ∧ i ≤ 5000 ∧ 0 ≤ n ∧ n ≤ 5000
set_option maxHeartbeats 1000000 in
theorem part_any (w : World) (bF bI bX p : Nat) (i n op : Int) (h : PartAt w bF bI bX p i n) :
    Calls Try.prog 32 #[.int .u8 op, pt bF, pt bI, pt bX] w fun e w' => e = .returned (.bool (partB p i n op)) ∧ w = w' := by
  obtain ⟨⟨t, l, m, hF⟩, hI, ⟨x0, x2, x3, hX⟩, hp, i0, i1, n0, n1⟩ := h
  have c1 : w.cell? ⟨bF, 3, none⟩ = some (.func (.func p) #[] #[]) := by rw [cell_block hF]; rfl
  have c2 := hI.cell
  have c3 : w.cell? ⟨bX, 1, none⟩ = some (.int .i64 n) := by rw [cell_block hX]; rfl
  clear hF hI hX
  rcases hp with rfl | rfl | rfl | rfl | rfl | rfl
  · go_enter Try.func32, Try.ntmps32
    go_wp2_with fail
    refine (params_any _ _ _ _ i0 i1 n0 n1).mono ?_
    rintro e w' ⟨rfl, rfl⟩
    go_wp2
    go_ret
    exact ⟨rfl, rfl⟩
  · go_enter Try.func32, Try.ntmps32
    go_wp2_with fail
    refine (nothing_any _ _ _ _).mono ?_
    rintro e w' ⟨rfl, rfl⟩
    go_wp2
    go_ret
    exact ⟨rfl, rfl⟩
  · go_enter Try.func32, Try.ntmps32
    go_wp2_with fail
    refine (stmt_any _ _ _ _).mono ?_
    rintro e w' ⟨rfl, rfl⟩
    go_wp2
    go_ret
    exact ⟨rfl, rfl⟩
  · go_enter Try.func32, Try.ntmps32
    go_wp2_with fail
    refine (headed_any _ _ _ _ i0).mono ?_
    rintro e w' ⟨rfl, rfl⟩
    go_wp2
    go_ret
    exact ⟨rfl, rfl⟩
  · go_enter Try.func32, Try.ntmps32
    go_wp2_with fail
    refine (expr_any _ _ _ _).mono ?_
    rintro e w' ⟨rfl, rfl⟩
    go_wp2
    go_ret
    exact ⟨rfl, rfl⟩
  · go_enter Try.func32, Try.ntmps32
    go_wp2_with fail
    refine (block_any _ _ _ _).mono ?_
    rintro e w' ⟨rfl, rfl⟩
    go_wp2
    go_ret
    exact ⟨rfl, rfl⟩
theorem text_any (t : Nat) (ht : t = 39 ∨ t = 42 ∨ t = 45) (s : ByteArray) (w : World) : Calls Try.prog t #[.string s] w fun e w' => e = .returned (.bool (textB t s)) ∧ w = w' := by
  rcases ht with rfl | rfl | rfl
  · exact own_any s w
  · exact empty_any s w
  · exact short_any s w
end Go.Proofs.Ytkpgnopimnamfaa
