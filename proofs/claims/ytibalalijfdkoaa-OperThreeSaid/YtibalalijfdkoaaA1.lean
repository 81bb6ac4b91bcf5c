/- What makes values: value.Int, value.Bool, value.Text, value.Num. -/
import Derived.Test.YtibalalijfdkoaaA0
namespace Go.Proofs.Ytibalalijfdkoaa
open Go.ChangeShapes Go.WideShapes Go.ChangeAt Go.RowKit

theorem int_any (x : Int) (w : World) : Calls Try.prog 5 #[.int .i64 x] w (Makes 2 x ⟨#[]⟩ 0 0 w) := by
  go_enter Try.func5, Try.ntmps5
  go_wp2
  go_ret
  exact ⟨_, rfl, IsN.new' _ _ _ _ _ (by simp), by simp, by go_grown⟩

theorem bool_any (b : Bool) (w : World) : Calls Try.prog 19 #[.bool b] w (Makes 1 b.toNat ⟨#[]⟩ 0 0 w) := by
  cases b
  all_goals
    go_enter Try.func19, Try.ntmps19
    go_wp2
    go_ret
    exact ⟨_, rfl, IsN.new' _ _ _ _ _ (by simp), by simp, by go_grown⟩

theorem text_any (s : ByteArray) (w : World) (h : s.size ≤ 4095) : Calls Try.prog 6 #[.string s] w (MakesE 3 0 s 0 0 w) := by
  have h' : decide ((4095 : Int) < (s.size : Int)) = false := by simp; omega
  go_enter Try.func6, Try.ntmps6
  go_wp2
  go_ret2
  exact ⟨_, rfl, IsN.new' _ _ _ _ _ (by simp), by simp, by go_grown⟩
end Go.Proofs.Ytibalalijfdkoaa
