/- value.measure and value.Check at a value of one node. -/
import Derived.Test.YtibalalijfdkoaaA7
namespace Go.Proofs.Ytibalalijfdkoaa
open Go.ChangeShapes Go.WideShapes Go.ChangeAt Go.RowKit Go.Shelf
attribute [local go_sem] Oper.semAt_some

theorem isN_own {β : Type} (B Bx : Nat) (k i : Int) (s : ByteArray) (re im : Nat) : OwnFrom B (fun (_ : β) W => IsN W Bx k i s re im) :=
  fun _ _ _ _ hs hg hr => (grownBy_keeps_cells hg (fun r e => (hr r e).2) hs rfl).trans hs

def tot (c : Int) : List Unit → Int
  | [] => 0
  | _ :: _ => c

set_option maxRecDepth 100000 in
set_option maxHeartbeats 1000000 in
theorem measure_in (n : Nat) (hn : 6 ≤ n) (b : Nat) (k i : Int) (s : ByteArray) (re im : Nat) (hk : (k == 5) = false) (hs : s.size ≤ 4095) (w : World) (hN : IsN w b k i s re im) :
    CallsIn Fence.wide n Try.prog 62 #[.slice (some ⟨b, 0, none⟩) 1 1] w fun e W' => e = .returned (.int .i64 (1 + s.size)) ∧ Below w.heap.size w W' := by
  have h1 : 1 ≤ n := by omega
  refine callsIn_of_wp_marks Try.func62 rfl trivial ?_ rfl
  simp only [Try.ntmps62, List.size_toArray, List.length_cons, List.length_nil, Nat.reduceAdd, Nat.reduceSub, Array.replicate_succ, Array.replicate_zero, List.push_toArray, List.append_toArray, List.nil_append, List.cons_append]
  gi_wp2_with fail
  refine ⟨trivial, (nodes_in (n - 1) b _).mono ?_⟩
  rintro e w' ⟨rfl, rfl⟩
  gi_wp2_with fail
  have bS := (Boxed.new w 3 (.int .i64 0)).alloc (.cells #[.slice (some ⟨b, 0, none⟩) 1 1] 23)
  have bA := Boxed.new (w.alloc (.cells #[.int .i64 0] 3)) 23 (.slice (some ⟨b, 0, none⟩) 1 1)
  simp only [World.size_alloc] at bA
  have hN2 := (hN.alloc (.cells #[.int .i64 0] 3)).alloc (.cells #[.slice (some ⟨b, 0, none⟩) 1 1] 23)
  have hB0 : Below w.heap.size w ((w.alloc (.cells #[.int .i64 0] 3)).alloc (.cells #[.slice (some ⟨b, 0, none⟩) 1 1] 23)) := ((Below.refl _ w).alloc (Nat.le_refl _) _).alloc (by simp) _
  have hsz : ((w.alloc (.cells #[.int .i64 0] 3)).alloc (.cells #[.slice (some ⟨b, 0, none⟩) 1 1] 23)).heap.size = w.heap.size + 2 := by simp
  obtain ⟨W0, hW0⟩ : ∃ W0, (w.alloc (.cells #[.int .i64 0] 3)).alloc (.cells #[.slice (some ⟨b, 0, none⟩) 1 1] 23) = W0 := ⟨_, rfl⟩
  rw [hW0] at bS bA hB0 hsz hN2 ⊢
  clear hW0
  refine wpIn_rangeFunc_ownH rfl h1 (gf := 77) (lb := #[.pointer (some ⟨w.heap.size + 1, 0, none⟩)]) rfl trivial (enters_of Try.func77 (by kernel_rfl) rfl)
    (nodes1_stops (n - 1) (by omega) (w.heap.size + 1) b w.heap.size k i s re im hk W0 bA.cell hN2) belowK_t (belowK_b (by omega)) (Below.refl _ _) (fun _ => rfl)
    (fun pre W => Boxed W w.heap.size 3 (.int .i64 (tot (1 + s.size) pre)) ∧ Below w.heap.size w W)
    (fun _ _ _ => False)
    (OwnFrom.and (Own.from (boxed_own _ _ _) _) (ownFrom_below (Nat.le_refl _) (by omega)))
    (fun _ _ _ _ _ hs _ _ => hs)
    ⟨bS, hB0⟩
    (fun _ a' W => ∃ Bx, w.heap.size < Bx ∧ IsN W Bx k i s re im ∧ a' = { tmps := #[.slice (some ⟨b, 0, none⟩) 1 1, undef, .int .i64 0, .pointer (some ⟨w.heap.size, 0, none⟩), .pointer (some ⟨Bx, 0, none⟩), .slice (some ⟨b, 0, none⟩) 1 1,
          .func (.func 77) #[] #[.pointer (some ⟨w.heap.size + 1, 0, none⟩)], .agg (nd k i s re im), .int .i64 0, undef, undef, undef, undef, undef, undef, undef], defers := [] })
    (fun _ a' _ X Y row hs hg hr => by obtain ⟨Bx, h1, h2, h3⟩ := hs; exact ⟨Bx, h1, isN_own (β := Unit) _ Bx k i s re im () X Y row h2 hg hr, h3⟩)
    ?assign ?body ?done ?stop
  case assign =>
    rintro l pre x W K ⟨bS1, hB1⟩ hK
    gi_wp2
    exact hK _ _ ((KeepsOthers.alloc _ _).from _) ((Below.refl _ W).alloc hB1.size _) ⟨bS1.alloc _, hB1.alloc hB1.size _⟩ ⟨W.heap.size, bS1.lt, IsN.new W .., rfl⟩
  case body =>
    rintro l pre x a' W hl ⟨r, hr⟩ ⟨bS1, hB1⟩ ⟨Bx, hBx, bX, rfl⟩ hlt
    obtain rfl : pre = [] := by cases pre with | nil => rfl | cons _ _ => simp at hlt
    have cS := bS1.cell
    have fS := bS1.frozen
    obtain ⟨_, _, _, c3, _⟩ := bX.cells
    simp only [tot] at cS
    clear hlt hN hN2 bA bS
    gi_wp2
    refine ⟨(KeepsOthers.setCell _ _ _).from _, (Below.refl _ W).setCell (p := ⟨w.heap.size, 0, none⟩) (by simp) _, ?_, hB1.setCell (p := ⟨w.heap.size, 0, none⟩) (by simp) _⟩
    simpa [tot] using bS1.set (.int .i64 (0 + (1 + s.size)))
  case done =>
    rintro D zs W hD rfl ⟨bS1, hB1⟩ hK
    have cS := bS1.cell
    simp only [tot] at cS
    clear hN hN2 bA bS
    gi_wp2
    refine ⟨by simp, .inl ⟨_, _, rfl, run_takeDeferred hK, ?_⟩⟩
    exact ⟨_, results_tmp rfl _ _ _, rfl, hB1.trans (belowK_b (w := w) (Nat.le_refl _) W D _ _ (by omega) hK rfl rfl)⟩
  case stop =>
    rintro D c pre W _ _ h _
    exact h.elim

theorem _root_.Go.Boxed.up {w w' : World} {b : Nat} {t : TypeId} {v : Value} (h : Boxed w b t v) (hb : Below w.heap.size w w') : Boxed w' b t v := (hb.block b h.lt).trans h
theorem keepsOthers_of_below {w w' : World} (h : Below w.heap.size w w') : KeepsOthers w w' := ⟨h.size, fun k _ ho _ => (h.block k (Array.getElem?_eq_some_iff.1 ho).1).trans ho⟩
theorem Nice.kind {k i : Int} {s : ByteArray} {re im : Nat} (h : Nice k i s re im) : (k == 5) = false := by
  rcases h with ⟨b, rfl, _⟩ | ⟨rfl, _⟩ | ⟨rfl, _⟩ | ⟨rfl, _⟩ <;> rfl
theorem Nice.size {k i : Int} {s : ByteArray} {re im : Nat} (h : Nice k i s re im) : s.size ≤ 4095 := by
  have z : (⟨#[]⟩ : ByteArray).size = 0 := rfl
  rcases h with ⟨b, rfl, rfl, rfl, _⟩ | ⟨rfl, rfl, _⟩ | ⟨rfl, rfl, h, _⟩ | ⟨rfl, rfl, rfl, _⟩
  · rw [z]; omega
  · rw [z]; omega
  · exact h
  · rw [z]; omega
def lst : List Unit → Int
  | [] => 1
  | _ :: _ => 0

set_option maxRecDepth 100000 in
set_option maxHeartbeats 1000000 in
theorem check_in (n : Nat) (hn : 7 ≤ n) (b : Nat) (k i : Int) (s : ByteArray) (re im : Nat) (hnice : Nice k i s re im) (w : World) (hN : IsN w b k i s re im) :
    CallsIn Fence.wide n Try.prog 44 #[.slice (some ⟨b, 0, none⟩) 1 1] w fun e W' => e = .returned (.int .i64 0) ∧ Below w.heap.size w W' := by
  have h1 : 1 ≤ n := by omega
  refine callsIn_of_wp_marks Try.func44 rfl trivial ?_ rfl
  simp only [Try.ntmps44, List.size_toArray, List.length_cons, List.length_nil, Nat.reduceAdd, Nat.reduceSub, Array.replicate_succ, Array.replicate_zero, List.push_toArray, List.append_toArray, List.nil_append, List.cons_append]
  gi_wp2_with fail
  refine ⟨trivial, (nodes_in (n - 1) b _).mono ?_⟩
  rintro e w' ⟨rfl, rfl⟩
  gi_wp2_with fail
  have hkind := hnice.kind
  have hsize := hnice.size
  obtain ⟨W0, hW0⟩ : ∃ W0, ((((w.alloc (.cells #[.slice (some ⟨b, 0, none⟩) 1 1] 23)).alloc (.cells #[.int .i64 0] 26)).alloc (.cells #[.int .i64 1] 3)).alloc (.cells #[.int .i64 0] 3)).alloc (.cells #[.slice (some ⟨b, 0, none⟩) 1 1] 23) = W0 := ⟨_, rfl⟩
  have bP : Boxed W0 w.heap.size 23 (.slice (some ⟨b, 0, none⟩) 1 1) := by
    rw [← hW0]; exact ((((Boxed.new w 23 _).alloc _).alloc _).alloc _).alloc _
  have bR : Boxed W0 (w.heap.size + 1) 26 (.int .i64 0) := by
    rw [← hW0]; simpa using (((Boxed.new (w.alloc (.cells #[.slice (some ⟨b, 0, none⟩) 1 1] 23)) 26 (.int .i64 0)).alloc (.cells #[.int .i64 1] 3)).alloc (.cells #[.int .i64 0] 3)).alloc (.cells #[.slice (some ⟨b, 0, none⟩) 1 1] 23)
  have bL : Boxed W0 (w.heap.size + 1 + 1) 3 (.int .i64 1) := by
    rw [← hW0]; simpa using ((Boxed.new ((w.alloc (.cells #[.slice (some ⟨b, 0, none⟩) 1 1] 23)).alloc (.cells #[.int .i64 0] 26)) 3 (.int .i64 1)).alloc (.cells #[.int .i64 0] 3)).alloc (.cells #[.slice (some ⟨b, 0, none⟩) 1 1] 23)
  have bT : Boxed W0 (w.heap.size + 1 + 1 + 1) 3 (.int .i64 0) := by
    rw [← hW0]; simpa using (Boxed.new (((w.alloc (.cells #[.slice (some ⟨b, 0, none⟩) 1 1] 23)).alloc (.cells #[.int .i64 0] 26)).alloc (.cells #[.int .i64 1] 3)) 3 (.int .i64 0)).alloc (.cells #[.slice (some ⟨b, 0, none⟩) 1 1] 23)
  have bA : Boxed W0 (w.heap.size + 1 + 1 + 1 + 1) 23 (.slice (some ⟨b, 0, none⟩) 1 1) := by
    rw [← hW0]; simpa using Boxed.new ((((w.alloc (.cells #[.slice (some ⟨b, 0, none⟩) 1 1] 23)).alloc (.cells #[.int .i64 0] 26)).alloc (.cells #[.int .i64 1] 3)).alloc (.cells #[.int .i64 0] 3)) 23 (.slice (some ⟨b, 0, none⟩) 1 1)
  have hN2 : IsN W0 b k i s re im := by
    rw [← hW0]; exact ((((hN.alloc _).alloc _).alloc _).alloc _).alloc _
  have hB0 : Below w.heap.size w W0 := by
    rw [← hW0]; go_grown
  have hsz : W0.heap.size = w.heap.size + 5 := by rw [← hW0]; simp
  rw [hW0]
  clear hW0
  refine wpIn_rangeFunc_ownH rfl h1 (gf := 77) (lb := #[.pointer (some ⟨w.heap.size + 1 + 1 + 1 + 1, 0, none⟩)]) rfl trivial (enters_of Try.func77 (by kernel_rfl) rfl)
    (nodes1_stops (n - 1) (by omega) (w.heap.size + 1 + 1 + 1 + 1) b w.heap.size k i s re im hkind W0 bA.cell hN2) belowK_t (belowK_b (by omega)) (Below.refl _ _) (fun _ => rfl)
    (fun pre W => ((Boxed W (w.heap.size + 1 + 1) 3 (.int .i64 (lst pre)) ∧ Boxed W (w.heap.size + 1 + 1 + 1) 3 (.int .i64 (tot 1 pre))) ∧ (Boxed W w.heap.size 23 (.slice (some ⟨b, 0, none⟩) 1 1) ∧ Boxed W (w.heap.size + 1) 26 (.int .i64 0))) ∧ Below w.heap.size w W)
    (fun _ _ _ => False)
    (OwnFrom.and (OwnFrom.and (OwnFrom.and (Own.from (boxed_own _ _ _) _) (Own.from (boxed_own _ _ _) _)) (OwnFrom.and (Own.from (boxed_own _ _ _) _) (Own.from (boxed_own _ _ _) _))) (ownFrom_below (Nat.le_refl _) (by omega)))
    (fun _ _ _ _ _ hs _ _ => hs)
    ⟨⟨⟨bL, bT⟩, bP, bR⟩, hB0⟩
    (fun _ a' W => ∃ Bx, w.heap.size + 1 + 1 + 1 < Bx ∧ IsN W Bx k i s re im ∧ a' = { tmps := #[.slice (some ⟨b, 0, none⟩) 1 1, .pointer (some ⟨w.heap.size, 0, none⟩), .pointer (some ⟨w.heap.size + 1, 0, none⟩), .pointer (some ⟨w.heap.size + 1 + 1, 0, none⟩), .pointer (some ⟨w.heap.size + 1 + 1 + 1, 0, none⟩), .pointer (some ⟨Bx, 0, none⟩), .int .i64 0, .slice (some ⟨b, 0, none⟩) 1 1, .int .i64 1, .bool false, .slice (some ⟨b, 0, none⟩) 1 1,
          .func (.func 77) #[] #[.pointer (some ⟨w.heap.size + 1 + 1 + 1 + 1, 0, none⟩)], .agg (nd k i s re im), .int .i64 0, undef, undef, undef, undef, undef, undef, undef, undef, undef, undef, undef, undef, undef, undef, undef, undef, undef, undef, undef, undef, undef], defers := [] })
    (fun _ a' _ X Y row hs hg hr => by obtain ⟨Bx, h1, h2, h3⟩ := hs; exact ⟨Bx, h1, isN_own (β := Unit) _ Bx k i s re im () X Y row h2 hg hr, h3⟩)
    ?assign ?body ?done ?stop
  case assign =>
    rintro l pre x W K ⟨⟨⟨bL1, bT1⟩, bP1, bR1⟩, hB1⟩ hK
    gi_wp2
    exact hK _ _ ((KeepsOthers.alloc _ _).from _) ((Below.refl _ W).alloc hB1.size _) ⟨⟨⟨bL1.alloc _, bT1.alloc _⟩, bP1.alloc _, bR1.alloc _⟩, hB1.alloc hB1.size _⟩ ⟨W.heap.size, bT1.lt, IsN.new W .., rfl⟩
  case body =>
    rintro l pre x a' W hl ⟨r, hr⟩ ⟨⟨⟨bL1, bT1⟩, bP1, bR1⟩, hB1⟩ ⟨Bx, hBx, bX, rfl⟩ hlt
    obtain rfl : pre = [] := by cases pre with | nil => rfl | cons _ _ => simp at hlt
    have h1' : 1 ≤ n - 1 - 1 := by omega
    have cT := bT1.cell
    have fT := bT1.frozen
    obtain ⟨c0, c1, c2, c3, c4⟩ := bX.cells
    simp only [tot] at cT
    clear hlt hN hN2 bA bL bT bP bR bX
    gi_wp2_with fail
    refine ⟨trivial, (CallsIn.inRound l (callsIn_wide.2 (right_any hnice _))).mono ?_⟩
    rintro e w2 ⟨rfl, hb2⟩
    have ko : KeepsOthers W w2 := (KeepsOthers.setCell _ _ _).trans (keepsOthers_of_below hb2)
    have kb : Below w.heap.size W w2 := ((Below.refl _ W).setCell (p := ⟨w.heap.size + 1 + 1 + 1, 0, none⟩) (by simp; omega) _).trans (hb2.mono (by simp; exact hB1.size))
    have bL2 := (bL1.other (show w.heap.size + 1 + 1 ≠ w.heap.size + 1 + 1 + 1 by omega) (.int .i64 1)).up hb2
    have bT2 := (bT1.set (.int .i64 1)).up hb2
    have bP2 := (bP1.other (show w.heap.size ≠ w.heap.size + 1 + 1 + 1 by omega) (.int .i64 1)).up hb2
    have bR2 := (bR1.other (show w.heap.size + 1 ≠ w.heap.size + 1 + 1 + 1 by omega) (.int .i64 1)).up hb2
    have cT2 := bT2.cell
    have cL2 := bL2.cell
    have fL2 := bL2.frozen
    have cP2 := bP2.cell
    clear cT fT c0 c1 c2 c3 c4 hb2
    gi_wp2
    exact ⟨(ko.trans (KeepsOthers.setCell _ _ _)).from _, kb.setCell (p := ⟨w.heap.size + 1 + 1, 0, none⟩) (by simp; omega) _, ⟨⟨bL2.set _, bT2.other (by omega) _⟩, bP2.other (by omega) _, bR2.other (by omega) _⟩, (hB1.trans kb).setCell (p := ⟨w.heap.size + 1 + 1, 0, none⟩) (by simp; omega) _⟩
  case done =>
    rintro D zs W hD rfl ⟨⟨⟨bL1, bT1⟩, bP1, bR1⟩, hB1⟩ hK
    have cL := bL1.cell
    have cR := bR1.cell
    have fR := bR1.frozen
    have cP := bP1.cell
    simp only [lst] at cL
    have hsW := hB1.size
    have hNW : IsN W b k i s re im := hN.below hB1 hN.lt
    clear hN hN2 bA bL bT bP bR cR fR
    gi_wp2_with fail
    refine ⟨trivial, (measure_in (n - 1) (by omega) b k i s re im hkind hsize W hNW).mono ?_⟩
    rintro e w2 ⟨rfl, hb2⟩
    have bR2 := bR1.up hb2
    have cR2 := bR2.cell
    have fR2 := bR2.frozen
    have hK2 := (hb2.block D (Array.getElem?_eq_some_iff.1 hK).1).trans hK
    have hB2 := hB1.trans (hb2.mono hsW)
    clear hb2 hK cL cP
    gi_wp2
    have hK3 : (w2.setCell ⟨w.heap.size + 1, 0, none⟩ (.int .i64 0)).heap[D]? = some (.deferred (some [])) := (KeepsOthers.setCell _ _ _).2 D _ hK2 rfl
    have bR3 := bR2.set (.int .i64 0)
    have hB3 := hB2.setCell (p := ⟨w.heap.size + 1, 0, none⟩) (by simp) (.int .i64 0)
    generalize w2.setCell ⟨w.heap.size + 1, 0, none⟩ (.int .i64 0) = w3 at *
    refine ⟨by simp, .inl ⟨_, _, rfl, run_takeDeferred hK3, ?_⟩⟩
    have cR3 := cell_kept bR3.cell (grownBy_putObj' _ D (.deferred none)) (fun r e => by cases e; exact ⟨_, hK3, rfl⟩)
    exact ⟨_, by simp [results, Try.f44, go_sem, cR3], rfl, hB3.trans (belowK_b (w := w) (Nat.le_refl _) w3 D _ _ (by omega) hK3 rfl rfl)⟩
  case stop =>
    rintro D c pre W _ _ h _
    exact h.elim

/-- value.Check of the values that are met here: they are right. -/
theorem check_any {k i : Int} {s : ByteArray} {re im : Nat} (hnice : Nice k i s re im) (b : Nat) (w : World) (hN : IsN w b k i s re im) :
    Calls Try.prog 44 #[.slice (some ⟨b, 0, none⟩) 1 1] w fun e W' => e = .returned (.int .i64 0) ∧ Below w.heap.size w W' :=
  callsIn_wide.1 (check_in 7 (Nat.le_refl _) b k i s re im hnice w hN)
end Go.Proofs.Ytibalalijfdkoaa
