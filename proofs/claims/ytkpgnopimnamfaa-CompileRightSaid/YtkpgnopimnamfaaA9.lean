/- tree.Check, whole. -/
import Derived.Test.YtkpgnopimnamfaaA8
namespace Go.Proofs.Ytkpgnopimnamfaa
open Go.ChangeShapes Go.WideShapes Go.ChangeAt Go.RowKit
theorem TreeAt.mono {w : World} {pa : Option Addr} {B B' : Nat} {T : List Tw} (h : TreeAt w pa B T) (hB : B ≤ B') : TreeAt w pa B' T := fun k x hx => by
  obtain ⟨a, ha, hb, r⟩ := h k x hx
  exact ⟨a, ha, Nat.lt_of_lt_of_le hb hB, r⟩
theorem TreeAt.below {w w' : World} {pa : Option Addr} {B : Nat} {T : List Tw} (h : TreeAt w pa B T) (hb : Below B w w') : TreeAt w' pa B T := fun k x hx => by
  obtain ⟨a, ha, hB, h0, h1, h2, h3⟩ := h k x hx
  have hn : (a.add (k * 4)).block < B := by rw [add_block]; exact hB
  exact ⟨a, ha, hB, cell_up h0 hb hn, cell_up h1 hb hn, cell_up h2 hb hn, cell_up h3 hb hn⟩
theorem treeSpec_of {T : List Tw} (h : ¬ 2048 < T.length) {nx : Nat} {wr dp : Int} (hR : wk T (T.length + 1) 0 1 (fun _ => true) (-1) = (nx, wr, dp)) :
    treeSpec T = if 0 ≤ wr then (wr, 3) else if nx < T.length then ((nx : Int), 3) else if 0 ≤ dp then (dp, 2) else (0, 0) := by
  unfold treeSpec; rw [if_neg h, hR]
theorem treeSpec_long {T : List Tw} (h : 2048 < T.length) : treeSpec T = (0, 2) := by unfold treeSpec; rw [if_pos h]
set_option maxRecDepth 100000 in
set_option maxHeartbeats 1000000 in
theorem check_any (w : World) (pa : Option Addr) (cap : Nat) (T : List Tw) (hT : T.length ≤ 5000) (hA : TreeAt w pa w.heap.size T) :
    Calls Try.prog 16 #[.slice pa T.length cap] w fun e w' => e = .returned (.tuple #[.int .i64 (treeSpec T).1, .int .i64 (treeSpec T).2]) ∧ Below w.heap.size w w' := by
  by_cases hl : 2048 < T.length
  · have e := treeSpec_long hl
    have E := Lib.hid e; clear e
    have h1 : (2048 : Int) < T.length := by omega
    have h2 : decide ((2048 : Int) < T.length) = true := by simp; omega
    go_enter Try.func16, Try.ntmps16
    go_wp2_with fail
    go_ret2
    exact ⟨by rw [E.out]; rfl, (Below.refl _ _).alloc (Nat.le_refl _) _⟩
  · have h1 : ¬ (2048 : Int) < T.length := by omega
    have HA := Lib.hid hA; clear hA
    have HT := Lib.hid hT; clear hT
    have HL := Lib.hid hl; clear hl
    go_enter Try.func16, Try.ntmps16
    go_wp2_with fail
    refine (forms_any _).mono ?_
    rintro e w1 ⟨rfl, F1, hB1⟩
    have hz : w.heap.size + 1 ≤ w1.heap.size := by have := hB1.size; simp at this; omega
    have T1 := (Boxed.new w 23 (.slice pa T.length cap)).up hB1
    have FF : Forms w1 (w.heap.size + 1) := by simpa using F1
    have HB := Lib.hid hB1; clear F1 hB1
    have HZ := Lib.hid hz
    have X : Hid (Cx ((((w1.alloc (.cells #[.map (some (w.heap.size + 1))] 72)).alloc (.cells #[.int .i64 (-1)] 3)).alloc (.cells #[.int .i64 (-1)] 3)).alloc (.cells #[.func (.func 31) #[] #[pt w.heap.size, pt (w1.heap.size + 1), pt w1.heap.size, pt (w1.heap.size + 1 + 1), pt (w1.heap.size + 1 + 1 + 1)]] 74))
        pa cap w.heap.size (w.heap.size + 1) w1.heap.size (w1.heap.size + 1) (w1.heap.size + 1 + 1) (w1.heap.size + 1 + 1 + 1) T (-1) (-1)) := Lib.hid (by
      refine ⟨(((T1.alloc _).alloc _).alloc _).alloc _, ?_, ?_, ?_, ?_, ?_, ?_⟩
      · have := Boxed.new (w1.alloc (.cells #[.map (some (w.heap.size + 1))] 72)) 3 (.int .i64 (-1))
        rw [World.size_alloc] at this
        exact (this.alloc _).alloc _
      · exact (((Boxed.new w1 72 (.map (some (w.heap.size + 1)))).alloc _).alloc _).alloc _
      · have := Boxed.new ((w1.alloc (.cells #[.map (some (w.heap.size + 1))] 72)).alloc (.cells #[.int .i64 (-1)] 3)) 3 (.int .i64 (-1))
        rw [World.size_alloc, World.size_alloc] at this
        exact this.alloc _
      · have := Boxed.new (((w1.alloc (.cells #[.map (some (w.heap.size + 1))] 72)).alloc (.cells #[.int .i64 (-1)] 3)).alloc (.cells #[.int .i64 (-1)] 3)) 74 (.func (.func 31) #[] #[pt w.heap.size, pt (w1.heap.size + 1), pt w1.heap.size, pt (w1.heap.size + 1 + 1), pt (w1.heap.size + 1 + 1 + 1)])
        rw [World.size_alloc, World.size_alloc, World.size_alloc] at this
        exact this
      · have hs := ((((Sav.refl (fun _ => False) w1).alloc (.cells #[.map (some (w.heap.size + 1))] 72)).alloc (.cells #[.int .i64 (-1)] 3)).alloc (.cells #[.int .i64 (-1)] 3)).alloc (.cells #[.func (.func 31) #[] #[pt w.heap.size, pt (w1.heap.size + 1), pt w1.heap.size, pt (w1.heap.size + 1 + 1), pt (w1.heap.size + 1 + 1 + 1)]] 74)
        exact FF.of_block (hs.2 _ FF.lt (fun h => h))
      · have hb : Below w.heap.size w w1 := ((Below.refl _ w).alloc (Nat.le_refl _) (.cells #[.slice pa T.length cap] 23)).trans (HB.out.mono (by simp))
        exact HA.out.below ((((hb.alloc (by omega) _).alloc (by simp; omega) _).alloc (by simp; omega) _).alloc (by simp; omega) _))
    have B1 : Hid (Below w.heap.size w ((((w1.alloc (.cells #[.map (some (w.heap.size + 1))] 72)).alloc (.cells #[.int .i64 (-1)] 3)).alloc (.cells #[.int .i64 (-1)] 3)).alloc (.cells #[.func (.func 31) #[] #[pt w.heap.size, pt (w1.heap.size + 1), pt w1.heap.size, pt (w1.heap.size + 1 + 1), pt (w1.heap.size + 1 + 1 + 1)]] 74))) := Lib.hid (by
      have hb : Below w.heap.size w w1 := ((Below.refl _ w).alloc (Nat.le_refl _) (.cells #[.slice pa T.length cap] 23)).trans (HB.out.mono (by simp))
      exact (((hb.alloc (by omega) _).alloc (by simp; omega) _).alloc (by simp; omega) _).alloc (by simp; omega) _)
    have ho : Ord w.heap.size (w.heap.size + 1) w1.heap.size (w1.heap.size + 1) (w1.heap.size + 1 + 1) (w1.heap.size + 1 + 1 + 1) := by
      have := FF.lt
      unfold Ord; omega
    have HO := Lib.hid ho
    have HFF := Lib.hid FF
    have HT1 := Lib.hid T1
    clear ho FF T1
    go_wp2_with fail
    refine (walk_any pa cap _ _ _ _ _ _ HO.out T (by have := HL.out; omega) (T.length + 1) 0 1 33 #[] (fun _ => true) (-1) _ (Nat.zero_le _) (by omega) (by omega) (by omega) X.out (.inl ⟨rfl, rfl, fun _ => rfl⟩)).mono ?_
    rintro e w2 ⟨rfl, hX, hS⟩
    have hZ2 := hS.size
    obtain ⟨nx, wr, dp, hR⟩ : ∃ nx wr dp, wk T (T.length + 1) 0 1 (fun _ => true) (-1) = (nx, wr, dp) := ⟨_, _, _, rfl⟩
    have E := Lib.hid (treeSpec_of HL.out hR)
    rw [hR] at hX ⊢
    clear hR
    simp only at hX
    have HX := Lib.hid hX; have HS := Lib.hid hS; clear hX hS
    have hB2 : Below w.heap.size w w2 := B1.out.trans (HS.out.below (by simp; omega) (fun k hk => by
      have := HO.out
      unfold Ord at this
      rcases hk with rfl | rfl <;> omega))
    have HB2 := Lib.hid hB2; clear hB2
    obtain ⟨D1, D2, D3, D4, D5, _, _⟩ := HX.out
    have d1 := D1.cell
    have d2 := D2.cell
    have d4 := D4.cell
    clear D1 D2 D3 D4 D5 hz hZ2
    by_cases g1 : 0 ≤ wr
    · have E2 := Lib.hid (E.out.trans (if_pos g1))
      go_wp2_with fail
      go_ret2
      exact ⟨by rw [E2.out]; rfl, HB2.out⟩
    · by_cases g2 : nx < T.length
      · have g2' : (nx : Int) < T.length := by omega
        have E2 := Lib.hid (E.out.trans ((if_neg g1).trans (if_pos g2)))
        go_wp2_with fail
        go_ret2
        exact ⟨by rw [E2.out]; rfl, HB2.out⟩
      · have g2' : ¬ (nx : Int) < T.length := by omega
        by_cases g3 : 0 ≤ dp
        · have E2 := Lib.hid (E.out.trans ((if_neg g1).trans ((if_neg g2).trans (if_pos g3))))
          go_wp2_with fail
          go_ret2
          exact ⟨by rw [E2.out]; rfl, HB2.out⟩
        · have E2 := Lib.hid (E.out.trans ((if_neg g1).trans ((if_neg g2).trans (if_neg g3))))
          go_wp2_with fail
          go_ret2
          exact ⟨by rw [E2.out]; rfl, HB2.out⟩
end Go.Proofs.Ytkpgnopimnamfaa
