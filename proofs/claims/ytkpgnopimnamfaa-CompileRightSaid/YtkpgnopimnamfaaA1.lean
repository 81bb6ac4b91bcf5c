/- The leaves under tree.Check: the language's words; what a twig may be. -/
import Derived.Test.YtkpgnopimnamfaaA0
namespace Go.Proofs.Ytkpgnopimnamfaa
open Go.ChangeShapes Go.WideShapes Go.ChangeAt Go.RowKit

/-- The language's words. -/
def kws : List (List UInt8) := [[102, 108, 111, 119], [108, 101, 116], [105, 102], [101, 108, 115, 101], [119, 104, 105, 108, 101], [114, 101, 116, 117, 114, 110], [102, 97, 105, 108], [115, 108, 101, 101, 112], [100, 111], [110, 111, 110, 101], [116, 114, 117, 101], [102, 97, 108, 115, 101], [111, 114], [97, 110, 100], [110, 111, 116], [108, 101, 110], [110, 117, 109], [114, 101], [105, 109], [99, 111, 110, 106], [99, 97, 108, 108], [99, 104, 105, 108, 100], [116, 105, 109, 101, 114], [102, 111, 114, 107], [97, 119, 97, 105, 116], [115, 101, 116, 116, 108, 101], [116, 97, 107, 101], [118, 101, 114, 115, 105, 111, 110]]
def kwB (s : ByteArray) : Bool := kws.any fun k => s.toList == k
theorem kw_any (s : ByteArray) (w : World) : Calls Try.prog 51 #[.string s] w fun e w' => e = .returned (.bool (kwB s)) ∧ w = w' := by
  by_cases h0 : (s.toList == [102, 108, 111, 119]) = true
  · have e : kwB s = true := by simp only [kwB, kws, List.any_cons, h0, Bool.true_or]
    have E := Lib.hid e; clear e
    go_enter Try.func51, Try.ntmps51
    go_wp2
    go_ret
    exact ⟨by rw [E.out]; rfl, rfl⟩
  rw [Bool.not_eq_true] at h0
  by_cases h1 : (s.toList == [108, 101, 116]) = true
  · have e : kwB s = true := by simp only [kwB, kws, List.any_cons, h1, Bool.true_or, Bool.or_true]
    have E := Lib.hid e; clear e
    go_enter Try.func51, Try.ntmps51
    go_wp2
    go_ret
    exact ⟨by rw [E.out]; rfl, rfl⟩
  rw [Bool.not_eq_true] at h1
  by_cases h2 : (s.toList == [105, 102]) = true
  · have e : kwB s = true := by simp only [kwB, kws, List.any_cons, h2, Bool.true_or, Bool.or_true]
    have E := Lib.hid e; clear e
    go_enter Try.func51, Try.ntmps51
    go_wp2
    go_ret
    exact ⟨by rw [E.out]; rfl, rfl⟩
  rw [Bool.not_eq_true] at h2
  by_cases h3 : (s.toList == [101, 108, 115, 101]) = true
  · have e : kwB s = true := by simp only [kwB, kws, List.any_cons, h3, Bool.true_or, Bool.or_true]
    have E := Lib.hid e; clear e
    go_enter Try.func51, Try.ntmps51
    go_wp2
    go_ret
    exact ⟨by rw [E.out]; rfl, rfl⟩
  rw [Bool.not_eq_true] at h3
  by_cases h4 : (s.toList == [119, 104, 105, 108, 101]) = true
  · have e : kwB s = true := by simp only [kwB, kws, List.any_cons, h4, Bool.true_or, Bool.or_true]
    have E := Lib.hid e; clear e
    go_enter Try.func51, Try.ntmps51
    go_wp2
    go_ret
    exact ⟨by rw [E.out]; rfl, rfl⟩
  rw [Bool.not_eq_true] at h4
  by_cases h5 : (s.toList == [114, 101, 116, 117, 114, 110]) = true
  · have e : kwB s = true := by simp only [kwB, kws, List.any_cons, h5, Bool.true_or, Bool.or_true]
    have E := Lib.hid e; clear e
    go_enter Try.func51, Try.ntmps51
    go_wp2
    go_ret
    exact ⟨by rw [E.out]; rfl, rfl⟩
  rw [Bool.not_eq_true] at h5
  by_cases h6 : (s.toList == [102, 97, 105, 108]) = true
  · have e : kwB s = true := by simp only [kwB, kws, List.any_cons, h6, Bool.true_or, Bool.or_true]
    have E := Lib.hid e; clear e
    go_enter Try.func51, Try.ntmps51
    go_wp2
    go_ret
    exact ⟨by rw [E.out]; rfl, rfl⟩
  rw [Bool.not_eq_true] at h6
  by_cases h7 : (s.toList == [115, 108, 101, 101, 112]) = true
  · have e : kwB s = true := by simp only [kwB, kws, List.any_cons, h7, Bool.true_or, Bool.or_true]
    have E := Lib.hid e; clear e
    go_enter Try.func51, Try.ntmps51
    go_wp2
    go_ret
    exact ⟨by rw [E.out]; rfl, rfl⟩
  rw [Bool.not_eq_true] at h7
  by_cases h8 : (s.toList == [100, 111]) = true
  · have e : kwB s = true := by simp only [kwB, kws, List.any_cons, h8, Bool.true_or, Bool.or_true]
    have E := Lib.hid e; clear e
    go_enter Try.func51, Try.ntmps51
    go_wp2
    go_ret
    exact ⟨by rw [E.out]; rfl, rfl⟩
  rw [Bool.not_eq_true] at h8
  by_cases h9 : (s.toList == [110, 111, 110, 101]) = true
  · have e : kwB s = true := by simp only [kwB, kws, List.any_cons, h9, Bool.true_or, Bool.or_true]
    have E := Lib.hid e; clear e
    go_enter Try.func51, Try.ntmps51
    go_wp2
    go_ret
    exact ⟨by rw [E.out]; rfl, rfl⟩
  rw [Bool.not_eq_true] at h9
  by_cases h10 : (s.toList == [116, 114, 117, 101]) = true
  · have e : kwB s = true := by simp only [kwB, kws, List.any_cons, h10, Bool.true_or, Bool.or_true]
    have E := Lib.hid e; clear e
    go_enter Try.func51, Try.ntmps51
    go_wp2
    go_ret
    exact ⟨by rw [E.out]; rfl, rfl⟩
  rw [Bool.not_eq_true] at h10
  by_cases h11 : (s.toList == [102, 97, 108, 115, 101]) = true
  · have e : kwB s = true := by simp only [kwB, kws, List.any_cons, h11, Bool.true_or, Bool.or_true]
    have E := Lib.hid e; clear e
    go_enter Try.func51, Try.ntmps51
    go_wp2
    go_ret
    exact ⟨by rw [E.out]; rfl, rfl⟩
  rw [Bool.not_eq_true] at h11
  by_cases h12 : (s.toList == [111, 114]) = true
  · have e : kwB s = true := by simp only [kwB, kws, List.any_cons, h12, Bool.true_or, Bool.or_true]
    have E := Lib.hid e; clear e
    go_enter Try.func51, Try.ntmps51
    go_wp2
    go_ret
    exact ⟨by rw [E.out]; rfl, rfl⟩
  rw [Bool.not_eq_true] at h12
  by_cases h13 : (s.toList == [97, 110, 100]) = true
  · have e : kwB s = true := by simp only [kwB, kws, List.any_cons, h13, Bool.true_or, Bool.or_true]
    have E := Lib.hid e; clear e
    go_enter Try.func51, Try.ntmps51
    go_wp2
    go_ret
    exact ⟨by rw [E.out]; rfl, rfl⟩
  rw [Bool.not_eq_true] at h13
  by_cases h14 : (s.toList == [110, 111, 116]) = true
  · have e : kwB s = true := by simp only [kwB, kws, List.any_cons, h14, Bool.true_or, Bool.or_true]
    have E := Lib.hid e; clear e
    go_enter Try.func51, Try.ntmps51
    go_wp2
    go_ret
    exact ⟨by rw [E.out]; rfl, rfl⟩
  rw [Bool.not_eq_true] at h14
  by_cases h15 : (s.toList == [108, 101, 110]) = true
  · have e : kwB s = true := by simp only [kwB, kws, List.any_cons, h15, Bool.true_or, Bool.or_true]
    have E := Lib.hid e; clear e
    go_enter Try.func51, Try.ntmps51
    go_wp2
    go_ret
    exact ⟨by rw [E.out]; rfl, rfl⟩
  rw [Bool.not_eq_true] at h15
  by_cases h16 : (s.toList == [110, 117, 109]) = true
  · have e : kwB s = true := by simp only [kwB, kws, List.any_cons, h16, Bool.true_or, Bool.or_true]
    have E := Lib.hid e; clear e
    go_enter Try.func51, Try.ntmps51
    go_wp2
    go_ret
    exact ⟨by rw [E.out]; rfl, rfl⟩
  rw [Bool.not_eq_true] at h16
  by_cases h17 : (s.toList == [114, 101]) = true
  · have e : kwB s = true := by simp only [kwB, kws, List.any_cons, h17, Bool.true_or, Bool.or_true]
    have E := Lib.hid e; clear e
    go_enter Try.func51, Try.ntmps51
    go_wp2
    go_ret
    exact ⟨by rw [E.out]; rfl, rfl⟩
  rw [Bool.not_eq_true] at h17
  by_cases h18 : (s.toList == [105, 109]) = true
  · have e : kwB s = true := by simp only [kwB, kws, List.any_cons, h18, Bool.true_or, Bool.or_true]
    have E := Lib.hid e; clear e
    go_enter Try.func51, Try.ntmps51
    go_wp2
    go_ret
    exact ⟨by rw [E.out]; rfl, rfl⟩
  rw [Bool.not_eq_true] at h18
  by_cases h19 : (s.toList == [99, 111, 110, 106]) = true
  · have e : kwB s = true := by simp only [kwB, kws, List.any_cons, h19, Bool.true_or, Bool.or_true]
    have E := Lib.hid e; clear e
    go_enter Try.func51, Try.ntmps51
    go_wp2
    go_ret
    exact ⟨by rw [E.out]; rfl, rfl⟩
  rw [Bool.not_eq_true] at h19
  by_cases h20 : (s.toList == [99, 97, 108, 108]) = true
  · have e : kwB s = true := by simp only [kwB, kws, List.any_cons, h20, Bool.true_or, Bool.or_true]
    have E := Lib.hid e; clear e
    go_enter Try.func51, Try.ntmps51
    go_wp2
    go_ret
    exact ⟨by rw [E.out]; rfl, rfl⟩
  rw [Bool.not_eq_true] at h20
  by_cases h21 : (s.toList == [99, 104, 105, 108, 100]) = true
  · have e : kwB s = true := by simp only [kwB, kws, List.any_cons, h21, Bool.true_or, Bool.or_true]
    have E := Lib.hid e; clear e
    go_enter Try.func51, Try.ntmps51
    go_wp2
    go_ret
    exact ⟨by rw [E.out]; rfl, rfl⟩
  rw [Bool.not_eq_true] at h21
  by_cases h22 : (s.toList == [116, 105, 109, 101, 114]) = true
  · have e : kwB s = true := by simp only [kwB, kws, List.any_cons, h22, Bool.true_or, Bool.or_true]
    have E := Lib.hid e; clear e
    go_enter Try.func51, Try.ntmps51
    go_wp2
    go_ret
    exact ⟨by rw [E.out]; rfl, rfl⟩
  rw [Bool.not_eq_true] at h22
  by_cases h23 : (s.toList == [102, 111, 114, 107]) = true
  · have e : kwB s = true := by simp only [kwB, kws, List.any_cons, h23, Bool.true_or, Bool.or_true]
    have E := Lib.hid e; clear e
    go_enter Try.func51, Try.ntmps51
    go_wp2
    go_ret
    exact ⟨by rw [E.out]; rfl, rfl⟩
  rw [Bool.not_eq_true] at h23
  by_cases h24 : (s.toList == [97, 119, 97, 105, 116]) = true
  · have e : kwB s = true := by simp only [kwB, kws, List.any_cons, h24, Bool.true_or, Bool.or_true]
    have E := Lib.hid e; clear e
    go_enter Try.func51, Try.ntmps51
    go_wp2
    go_ret
    exact ⟨by rw [E.out]; rfl, rfl⟩
  rw [Bool.not_eq_true] at h24
  by_cases h25 : (s.toList == [115, 101, 116, 116, 108, 101]) = true
  · have e : kwB s = true := by simp only [kwB, kws, List.any_cons, h25, Bool.true_or, Bool.or_true]
    have E := Lib.hid e; clear e
    go_enter Try.func51, Try.ntmps51
    go_wp2
    go_ret
    exact ⟨by rw [E.out]; rfl, rfl⟩
  rw [Bool.not_eq_true] at h25
  by_cases h26 : (s.toList == [116, 97, 107, 101]) = true
  · have e : kwB s = true := by simp only [kwB, kws, List.any_cons, h26, Bool.true_or, Bool.or_true]
    have E := Lib.hid e; clear e
    go_enter Try.func51, Try.ntmps51
    go_wp2
    go_ret
    exact ⟨by rw [E.out]; rfl, rfl⟩
  rw [Bool.not_eq_true] at h26
  by_cases h27 : (s.toList == [118, 101, 114, 115, 105, 111, 110]) = true
  · have e : kwB s = true := by simp only [kwB, kws, List.any_cons, h27, Bool.true_or, Bool.or_true]
    have E := Lib.hid e; clear e
    go_enter Try.func51, Try.ntmps51
    go_wp2
    go_ret
    exact ⟨by rw [E.out]; rfl, rfl⟩
  rw [Bool.not_eq_true] at h27
  have e : kwB s = false := by simp only [kwB, kws, List.any_cons, List.any_nil, h0, h1, h2, h3, h4, h5, h6, h7, h8, h9, h10, h11, h12, h13, h14, h15, h16, h17, h18, h19, h20, h21, h22, h23, h24, h25, h26, h27, Bool.or_false]
  have E := Lib.hid e; clear e
  go_enter Try.func51, Try.ntmps51
  go_wp2
  go_ret
  exact ⟨by rw [E.out]; rfl, rfl⟩

def emptyB (s : ByteArray) : Bool := s.toList.isEmpty
theorem empty_any (s : ByteArray) (w : World) : Calls Try.prog 42 #[.string s] w fun e w' => e = .returned (.bool (emptyB s)) ∧ w = w' := by
  go_enter Try.func42, Try.ntmps42
  go_wp2
  go_ret
  exact ⟨rfl, rfl⟩
def shortB (s : ByteArray) : Bool := decide ((s.size : Int) ≤ 4095)
theorem short_any (s : ByteArray) (w : World) : Calls Try.prog 45 #[.string s] w fun e w' => e = .returned (.bool (shortB s)) ∧ w = w' := by
  go_enter Try.func45, Try.ntmps45
  go_wp2
  go_ret
  exact ⟨rfl, rfl⟩
def exprB (op : Int) : Bool := decide (20 ≤ op ∧ op ≤ 26 ∨ 30 ≤ op ∧ op ≤ 48 ∨ 50 ≤ op ∧ op ≤ 57)
theorem expression_any (op : Int) (w : World) : Calls Try.prog 53 #[.int .u8 op] w fun e w' => e = .returned (.bool (exprB op)) ∧ w = w' := by
  have hc : op < 20 ∨ (20 ≤ op ∧ op ≤ 26) ∨ (27 ≤ op ∧ op ≤ 29) ∨ (30 ≤ op ∧ op ≤ 48) ∨ op = 49 ∨ (50 ≤ op ∧ op ≤ 57) ∨ 57 < op := by omega
  rcases hc with h | ⟨h, h'⟩ | ⟨h, h'⟩ | ⟨h, h'⟩ | h | ⟨h, h'⟩ | h
  · have e : exprB op = false := by unfold exprB; simp; omega
    have E := Lib.hid e; clear e
    have g20a : decide (20 ≤ op) = false := by simp; omega
    have g20b : decide (op ≤ 20) = true := by simp; omega
    have g26a : decide (26 ≤ op) = false := by simp; omega
    have g26b : decide (op ≤ 26) = true := by simp; omega
    have g30a : decide (30 ≤ op) = false := by simp; omega
    have g30b : decide (op ≤ 30) = true := by simp; omega
    have g48a : decide (48 ≤ op) = false := by simp; omega
    have g48b : decide (op ≤ 48) = true := by simp; omega
    have g50a : decide (50 ≤ op) = false := by simp; omega
    have g50b : decide (op ≤ 50) = true := by simp; omega
    have g57a : decide (57 ≤ op) = false := by simp; omega
    have g57b : decide (op ≤ 57) = true := by simp; omega
    go_enter Try.func53, Try.ntmps53
    go_wp2
    go_ret
    exact ⟨by rw [E.out]; rfl, rfl⟩
  · have e : exprB op = true := by unfold exprB; simp; omega
    have E := Lib.hid e; clear e
    have g20a : decide (20 ≤ op) = true := by simp; omega
    have g26b : decide (op ≤ 26) = true := by simp; omega
    have g30a : decide (30 ≤ op) = false := by simp; omega
    have g30b : decide (op ≤ 30) = true := by simp; omega
    have g48a : decide (48 ≤ op) = false := by simp; omega
    have g48b : decide (op ≤ 48) = true := by simp; omega
    have g50a : decide (50 ≤ op) = false := by simp; omega
    have g50b : decide (op ≤ 50) = true := by simp; omega
    have g57a : decide (57 ≤ op) = false := by simp; omega
    have g57b : decide (op ≤ 57) = true := by simp; omega
    go_enter Try.func53, Try.ntmps53
    go_wp2
    go_ret
    exact ⟨by rw [E.out]; rfl, rfl⟩
  · have e : exprB op = false := by unfold exprB; simp; omega
    have E := Lib.hid e; clear e
    have g20a : decide (20 ≤ op) = true := by simp; omega
    have g20b : decide (op ≤ 20) = false := by simp; omega
    have g26a : decide (26 ≤ op) = true := by simp; omega
    have g26b : decide (op ≤ 26) = false := by simp; omega
    have g30a : decide (30 ≤ op) = false := by simp; omega
    have g30b : decide (op ≤ 30) = true := by simp; omega
    have g48a : decide (48 ≤ op) = false := by simp; omega
    have g48b : decide (op ≤ 48) = true := by simp; omega
    have g50a : decide (50 ≤ op) = false := by simp; omega
    have g50b : decide (op ≤ 50) = true := by simp; omega
    have g57a : decide (57 ≤ op) = false := by simp; omega
    have g57b : decide (op ≤ 57) = true := by simp; omega
    go_enter Try.func53, Try.ntmps53
    go_wp2
    go_ret
    exact ⟨by rw [E.out]; rfl, rfl⟩
  · have e : exprB op = true := by unfold exprB; simp; omega
    have E := Lib.hid e; clear e
    have g20a : decide (20 ≤ op) = true := by simp; omega
    have g20b : decide (op ≤ 20) = false := by simp; omega
    have g26a : decide (26 ≤ op) = true := by simp; omega
    have g26b : decide (op ≤ 26) = false := by simp; omega
    have g30a : decide (30 ≤ op) = true := by simp; omega
    have g48b : decide (op ≤ 48) = true := by simp; omega
    have g50a : decide (50 ≤ op) = false := by simp; omega
    have g50b : decide (op ≤ 50) = true := by simp; omega
    have g57a : decide (57 ≤ op) = false := by simp; omega
    have g57b : decide (op ≤ 57) = true := by simp; omega
    go_enter Try.func53, Try.ntmps53
    go_wp2
    go_ret
    exact ⟨by rw [E.out]; rfl, rfl⟩
  · have e : exprB op = false := by unfold exprB; simp; omega
    have E := Lib.hid e; clear e
    have g20a : decide (20 ≤ op) = true := by simp; omega
    have g20b : decide (op ≤ 20) = false := by simp; omega
    have g26a : decide (26 ≤ op) = true := by simp; omega
    have g26b : decide (op ≤ 26) = false := by simp; omega
    have g30a : decide (30 ≤ op) = true := by simp; omega
    have g30b : decide (op ≤ 30) = false := by simp; omega
    have g48a : decide (48 ≤ op) = true := by simp; omega
    have g48b : decide (op ≤ 48) = false := by simp; omega
    have g50a : decide (50 ≤ op) = false := by simp; omega
    have g50b : decide (op ≤ 50) = true := by simp; omega
    have g57a : decide (57 ≤ op) = false := by simp; omega
    have g57b : decide (op ≤ 57) = true := by simp; omega
    go_enter Try.func53, Try.ntmps53
    go_wp2
    go_ret
    exact ⟨by rw [E.out]; rfl, rfl⟩
  · have e : exprB op = true := by unfold exprB; simp; omega
    have E := Lib.hid e; clear e
    have g20a : decide (20 ≤ op) = true := by simp; omega
    have g20b : decide (op ≤ 20) = false := by simp; omega
    have g26a : decide (26 ≤ op) = true := by simp; omega
    have g26b : decide (op ≤ 26) = false := by simp; omega
    have g30a : decide (30 ≤ op) = true := by simp; omega
    have g30b : decide (op ≤ 30) = false := by simp; omega
    have g48a : decide (48 ≤ op) = true := by simp; omega
    have g48b : decide (op ≤ 48) = false := by simp; omega
    have g50a : decide (50 ≤ op) = true := by simp; omega
    have g57b : decide (op ≤ 57) = true := by simp; omega
    go_enter Try.func53, Try.ntmps53
    go_wp2
    go_ret
    exact ⟨by rw [E.out]; rfl, rfl⟩
  · have e : exprB op = false := by unfold exprB; simp; omega
    have E := Lib.hid e; clear e
    have g20a : decide (20 ≤ op) = true := by simp; omega
    have g20b : decide (op ≤ 20) = false := by simp; omega
    have g26a : decide (26 ≤ op) = true := by simp; omega
    have g26b : decide (op ≤ 26) = false := by simp; omega
    have g30a : decide (30 ≤ op) = true := by simp; omega
    have g30b : decide (op ≤ 30) = false := by simp; omega
    have g48a : decide (48 ≤ op) = true := by simp; omega
    have g48b : decide (op ≤ 48) = false := by simp; omega
    have g50a : decide (50 ≤ op) = true := by simp; omega
    have g50b : decide (op ≤ 50) = false := by simp; omega
    have g57a : decide (57 ≤ op) = true := by simp; omega
    have g57b : decide (op ≤ 57) = false := by simp; omega
    go_enter Try.func53, Try.ntmps53
    go_wp2
    go_ret
    exact ⟨by rw [E.out]; rfl, rfl⟩
def stmtB (op : Int) : Bool := decide (4 ≤ op ∧ op ≤ 11)
theorem statement_any (op : Int) (w : World) : Calls Try.prog 52 #[.int .u8 op] w fun e w' => e = .returned (.bool (stmtB op)) ∧ w = w' := by
  have hc : op < 4 ∨ (4 ≤ op ∧ op ≤ 11) ∨ 11 < op := by omega
  rcases hc with h | ⟨h, h'⟩ | h
  · have e : stmtB op = false := by unfold stmtB; simp; omega
    have E := Lib.hid e; clear e
    have g4a : decide (4 ≤ op) = false := by simp; omega
    have g4b : decide (op ≤ 4) = true := by simp; omega
    have g11a : decide (11 ≤ op) = false := by simp; omega
    have g11b : decide (op ≤ 11) = true := by simp; omega
    go_enter Try.func52, Try.ntmps52
    go_wp2
    go_ret
    exact ⟨by rw [E.out]; rfl, rfl⟩
  · have e : stmtB op = true := by unfold stmtB; simp; omega
    have E := Lib.hid e; clear e
    have g4a : decide (4 ≤ op) = true := by simp; omega
    have g11b : decide (op ≤ 11) = true := by simp; omega
    go_enter Try.func52, Try.ntmps52
    go_wp2
    go_ret
    exact ⟨by rw [E.out]; rfl, rfl⟩
  · have e : stmtB op = false := by unfold stmtB; simp; omega
    have E := Lib.hid e; clear e
    have g4a : decide (4 ≤ op) = true := by simp; omega
    have g4b : decide (op ≤ 4) = false := by simp; omega
    have g11a : decide (11 ≤ op) = true := by simp; omega
    have g11b : decide (op ≤ 11) = false := by simp; omega
    go_enter Try.func52, Try.ntmps52
    go_wp2
    go_ret
    exact ⟨by rw [E.out]; rfl, rfl⟩
theorem expr_any (i n op : Int) (w : World) : Calls Try.prog 46 #[.int .i64 i, .int .i64 n, .int .u8 op] w fun e w' => e = .returned (.bool (exprB op)) ∧ w = w' := by
  go_enter Try.func46, Try.ntmps46
  go_wp2_with fail
  refine (expression_any _ _).mono ?_
  rintro e w' ⟨rfl, rfl⟩
  go_wp2
  go_ret
  exact ⟨rfl, rfl⟩
theorem stmt_any (i n op : Int) (w : World) : Calls Try.prog 43 #[.int .i64 i, .int .i64 n, .int .u8 op] w fun e w' => e = .returned (.bool (stmtB op)) ∧ w = w' := by
  go_enter Try.func43, Try.ntmps43
  go_wp2_with fail
  refine (statement_any _ _).mono ?_
  rintro e w' ⟨rfl, rfl⟩
  go_wp2
  go_ret
  exact ⟨rfl, rfl⟩
theorem nothing_any (i n op : Int) (w : World) : Calls Try.prog 41 #[.int .i64 i, .int .i64 n, .int .u8 op] w fun e w' => e = .returned (.bool false) ∧ w = w' := by
  go_enter Try.func41, Try.ntmps41
  go_wp2
  go_ret
  exact ⟨rfl, rfl⟩
theorem block_any (i n op : Int) (w : World) : Calls Try.prog 47 #[.int .i64 i, .int .i64 n, .int .u8 op] w fun e w' => e = .returned (.bool (op == 3)) ∧ w = w' := by
  go_enter Try.func47, Try.ntmps47
  go_wp2
  go_ret
  exact ⟨rfl, rfl⟩
def headedB (i op : Int) : Bool := (i == 0 && exprB op) || (decide (0 < i) && op == 3)
theorem headed_any (i n op : Int) (w : World) (hi : 0 ≤ i) : Calls Try.prog 44 #[.int .i64 i, .int .i64 n, .int .u8 op] w fun e w' => e = .returned (.bool (headedB i op)) ∧ w = w' := by
  by_cases h : i = 0
  · subst h
    have e : headedB 0 op = exprB op := by simp [headedB]
    have E := Lib.hid e; clear e
    obtain ⟨q, hq⟩ : ∃ q, exprB op = q := ⟨_, rfl⟩
    have Q := Lib.hid hq; clear hq
    cases q
    all_goals
      go_enter Try.func44, Try.ntmps44
      go_wp2_with fail
      refine (expression_any _ _).mono ?_
      rw [Q.out]
      rintro e w' ⟨rfl, rfl⟩
      go_wp2
      go_ret
      exact ⟨by rw [E.out, Q.out]; rfl, rfl⟩
  · have e : headedB i op = (op == 3) := by
      have h1 : (i == 0) = false := by rw [beq_eq_false_iff_ne]; exact h
      have h2 : decide (0 < i) = true := by simp; omega
      simp [headedB, h1, h2]
    have E := Lib.hid e; clear e
    have h1 : (i == 0) = false := by rw [beq_eq_false_iff_ne]; exact h
    have h2 : 0 < i := by omega
    have h3 : decide (0 < i) = true := by simp; omega
    go_enter Try.func44, Try.ntmps44
    go_wp2_with fail
    go_ret
    exact ⟨by rw [E.out]; rfl, rfl⟩
def paramsB (i n op : Int) : Bool := (decide (i < n - 1) && op == 2) || (i == n - 1 && op == 3)
theorem params_any (i n op : Int) (w : World) (_ : 0 ≤ i) (_ : i ≤ 5000) (hn : 0 ≤ n) (hn' : n ≤ 5000) : Calls Try.prog 40 #[.int .i64 i, .int .i64 n, .int .u8 op] w fun e w' => e = .returned (.bool (paramsB i n op)) ∧ w = w' := by
  rcases Int.lt_trichotomy i (n - 1) with h | h | h
  · have e : paramsB i n op = (op == 2) := by
      have h1 : (i == n - 1) = false := by rw [beq_eq_false_iff_ne]; omega
      have h2 : decide (i < n - 1) = true := by simp; omega
      simp [paramsB, h1, h2]
    have E := Lib.hid e; clear e
    have h1 : (i == n - 1) = false := by rw [beq_eq_false_iff_ne]; omega
    have h3 : decide (i < n - 1) = true := by simp; omega
    obtain ⟨q, hq⟩ : ∃ q, (op == 2) = q := ⟨_, rfl⟩
    cases q
    all_goals
      go_enter Try.func40, Try.ntmps40
      go_wp2_with fail
      go_ret
      exact ⟨by rw [E.out, hq]; rfl, rfl⟩
  · have e : paramsB i n op = (op == 3) := by
      have h1 : (i == n - 1) = true := by rw [beq_iff_eq]; omega
      have h2 : decide (i < n - 1) = false := by simp; omega
      simp [paramsB, h1, h2]
    have E := Lib.hid e; clear e
    have h1 : (i == n - 1) = true := by rw [beq_iff_eq]; omega
    have h2 : ¬ i < n - 1 := by omega
    have h3 : decide (i < n - 1) = false := by simp; omega
    have H := Lib.hid h; clear h
    go_enter Try.func40, Try.ntmps40
    go_wp2_with fail
    go_ret
    exact ⟨by rw [E.out]; rfl, rfl⟩
  · have e : paramsB i n op = false := by
      have h1 : (i == n - 1) = false := by rw [beq_eq_false_iff_ne]; omega
      have h2 : decide (i < n - 1) = false := by simp; omega
      simp [paramsB, h1, h2]
    have E := Lib.hid e; clear e
    have h1 : (i == n - 1) = false := by rw [beq_eq_false_iff_ne]; omega
    have h2 : ¬ i < n - 1 := by omega
    have h3 : decide (i < n - 1) = false := by simp; omega
    go_enter Try.func40, Try.ntmps40
    go_wp2_with fail
    go_ret
    exact ⟨by rw [E.out]; rfl, rfl⟩
end Go.Proofs.Ytkpgnopimnamfaa
