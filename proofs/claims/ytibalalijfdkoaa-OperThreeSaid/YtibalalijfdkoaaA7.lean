/- The iterator value.nodes at a value of one node. -/
import Derived.Test.YtibalalijfdkoaaA6
namespace Go.Proofs.Ytibalalijfdkoaa
open Go.ChangeShapes Go.WideShapes Go.ChangeAt Go.RowKit Go.Shelf
attribute [local go_sem] Oper.semAt_some

set_option maxRecDepth 100000 in
set_option maxHeartbeats 1000000 in
theorem nodes1_in (n : Nat) (hn : 1 ≤ n) (l Bn b n₀ : Nat) (k i : Int) (s : ByteArray) (re im : Nat) (hk : (k == 5) = false) (J Jx : List Unit → World → Prop) (W : World)
    (hJa : AbidesFrom W.heap.size J)
    (hY : ∀ pre x W, J pre W → pre.length < 1 → YieldAt Fence.wide (n - 1) Try.prog l ((fun _ : Unit => #[.agg (nd k i s re im), .int .i64 0]) x) W fun e W' =>
      (e = .returned (.bool true) ∧ J (pre ++ [x]) W' ∧ Below n₀ W W') ∨ (e = .returned (.bool false) ∧ Jx (pre ++ [x]) W'))
    (hBn : W.cell? ⟨Bn, 0, none⟩ = some (.slice (some ⟨b, 0, none⟩) 1 1)) (hN : IsN W b k i s re im) (h0 : J [] W) :
    CallsIn Fence.wide n Try.prog 77 #[.func (.yield l) #[] #[], .pointer (some ⟨Bn, 0, none⟩)] W fun e W' => (∃ v, e = .returned v) ∧
      ((∃ ys, ys = [()] ∧ J ys W') ∨ (∃ pre, pre = [()] ∧ Jx pre W')) := by
  obtain ⟨c0, c1, c2, c3, c4⟩ := hN.cells
  have h1 := hJa [] W _ none h0 (World.grownBy_alloc W (.cells (nd k i s re im) 41) none) (fun r e => by cases e)
  obtain ⟨fn, tmps, assign, body, hy, hR⟩ := hY [] () _ h1 (by simp)
  dsimp only at hy
  have HR := Lib.hid hR
  clear hR hY hJa h0 h1 hN
  refine callsIn_of_wp Try.func77 rfl trivial ?_ rfl
  simp only [Try.ntmps77, List.size_toArray, List.length_cons, List.length_nil, Nat.reduceAdd, Nat.reduceSub, Array.replicate_succ, Array.replicate_zero, List.push_toArray, List.append_toArray, List.nil_append, List.cons_append]
  gi_wp2
  refine wpIn_loop_rounds 2 ?_
  rw [roundsIn_succ]
  gi_wp2
  refine HR.out.mono ?_
  rintro e W3 (⟨rfl, hJ3, hk3⟩ | ⟨rfl, hJx3⟩)
  · have H3 := Lib.hid hJ3
    clear hJ3 hk3 hy HR hBn c0 c1 c2 c3 c4
    gi_wp2
    rw [roundsIn_succ]
    gi_wp2
    go_end0
    exact ⟨⟨_, rfl⟩, .inl ⟨_, rfl, H3.out⟩⟩
  · have H3 := Lib.hid hJx3
    clear hJx3 hy HR hBn c0 c1 c2 c3 c4
    gi_wp2
    refine bodyPost_ret (results_none rfl _ _ _) rfl ?_
    exact ⟨⟨_, rfl⟩, .inr ⟨_, rfl, H3.out⟩⟩

theorem nodes1_stops (n : Nat) (hn : 1 ≤ n) (Bn b n₀ : Nat) (k i : Int) (s : ByteArray) (re im : Nat) (hk : (k == 5) = false) (w : World)
    (hBn : w.cell? ⟨Bn, 0, none⟩ = some (.slice (some ⟨b, 0, none⟩) 1 1)) (hN : IsN w b k i s re im) :
    SeqStopsK Fence.wide n Try.prog 77 #[.pointer (some ⟨Bn, 0, none⟩)] (fun _ : Unit => #[.agg (nd k i s re im), .int .i64 0]) (Below n₀) (fun ys => ys = [()]) (fun ys => ys = [()]) 1 w := fun l J Jx W hW hJ _ hY h0 =>
  nodes1_in n hn l Bn b n₀ k i s re im hk J Jx W hJ hY ((hW.cell (p := ⟨Bn, 0, none⟩) (cell_lt hBn)).trans hBn) (hN.up hW) h0

/-- value.nodes: a closure over the boxed slice. -/
theorem nodes_in (n : Nat) (b : Nat) (w : World) :
    CallsIn Fence.wide n Try.prog 57 #[.slice (some ⟨b, 0, none⟩) 1 1] w fun e w' => e = .returned (.func (.func 77) #[] #[.pointer (some ⟨w.heap.size, 0, none⟩)]) ∧ w' = w.alloc (.cells #[.slice (some ⟨b, 0, none⟩) 1 1] 23) := by
  refine callsIn_of_wp Try.func57 rfl trivial ?_ rfl
  simp only [Try.ntmps57, List.size_toArray, List.length_cons, List.length_nil, Nat.reduceAdd, Nat.reduceSub, Array.replicate_succ, Array.replicate_zero, List.push_toArray, List.append_toArray, List.nil_append, List.cons_append]
  gi_wp2
  go_ret
  exact ⟨rfl, rfl⟩
end Go.Proofs.Ytibalalijfdkoaa
