/- The heap: rise and sink. -/
import Derived.Test.YtkpgnopimnamfaaHA
import Derived.Deep.RegionHeld3
namespace Go.Proofs.Ytkpgnopimnamfaa
open Go.ChangeShapes Go.WideShapes Go.ChangeAt Go.RowKit
/-- Where a hole moves from one place to another, all stays but for its order. -/
theorem hole_move (Z : List Th) (i p : Nat) (x : Th) (hi : i < Z.length) (hp : p < Z.length) (hne : i ≠ p) : List.Perm ((Z.set i (Z[p]'hp)).set p x) (Z.set i x) := by
  rw [List.perm_iff_count]
  intro a
  have h1 : p < (Z.set i (Z[p]'hp)).length := by rw [List.length_set]; exact hp
  rw [List.count_set h1, List.count_set hi, List.count_set hi, List.getElem_set_ne hne]
  rw [Nat.add_sub_cancel]
/-- The cells of a thing of a heap. -/
theorem HpO.cells {w : World} {B hp g cap H : Nat} {X : List Th} {next : Int} {L : List (Int × Value)} (h : HpO w B hp (some ⟨g, 0, none⟩) cap H X next L) {i : Nat} {x : Th} (hx : X[i]? = some x) :
    w.cell? ⟨g, i * 3, none⟩ = some (.int .i64 x.1) ∧ w.cell? ⟨g, i * 3 + 1, none⟩ = some (.int .i64 x.2.1) ∧ w.cell? ⟨g, i * 3 + 2, none⟩ = some (.int .i64 x.2.2) := by
  rcases h.2.1.2 with ⟨e, _⟩ | ⟨g', cap', cur, e, hb, hg, hc, hm, hs, ht⟩
  · cases e
  · cases e
    have hk := thCells_at X i x hx
    have hlt := (List.getElem?_eq_some_iff.1 hx).1
    have hcell : ∀ j, j < 3 → w.cell? ⟨g, i * 3 + j, none⟩ = (thOf x)[j]? := fun j hj => by
      rw [cell_block hg, ← hk j hj, ← ht, List.getElem?_take, if_pos (by omega), Array.getElem?_toList]
    exact ⟨hcell 0 (by omega), hcell 1 (by omega), hcell 2 (by omega)⟩
theorem HpO.row {w : World} {B hp g cap H : Nat} {X : List Th} {next : Int} {L : List (Int × Value)} (h : HpO w B hp (some ⟨g, 0, none⟩) cap H X next L) : B ≤ g ∧ g < w.heap.size ∧ hp < w.heap.size ∧ g ≠ hp := by
  have h1 := h.2.1.lt g rfl
  refine ⟨h1.1, h1.2, (Array.getElem?_eq_some_iff.1 h.1).1, fun e => ?_⟩
  rcases h.2.1.2 with ⟨e', _⟩ | ⟨g', cap', cur, e', hb, hg, _⟩
  · cases e'
  · cases e'
    rw [e, h.1] at hg; cases hg
theorem bcell {W w1 : World} (hb : Below W.heap.size W w1) : (∀ b o, b < W.heap.size → w1.cell? ⟨b, o, none⟩ = W.cell? ⟨b, o, none⟩) ∧ (∀ b o, b < W.heap.size → w1.frozen? ⟨b, o, none⟩ = W.frozen? ⟨b, o, none⟩) :=
  ⟨fun _ _ h => hb.cell h, fun _ _ h => hb.frozen h⟩
theorem below_next {w0 W w1 : World} {Q : Prop} (h : Below w0.heap.size w0 W ∧ Q) (hb : Below W.heap.size W w1) : Below w0.heap.size w0 w1 := h.1.trans (hb.mono h.1.size)
theorem HpO.below {w w' : World} {B hp cap H : Nat} {ao : Option Addr} {X : List Th} {next : Int} {L : List (Int × Value)} (h : HpO w B hp ao cap H X next L) (hb : Below w.heap.size w w') : HpO w' B hp ao cap H X next L := by
  refine ⟨(hb.block _ (Array.getElem?_eq_some_iff.1 h.1).1).trans h.1, ?_, h.2.2.of_block (hb.block _ h.2.2.lt)⟩
  refine ⟨h.2.1.1, ?_⟩
  rcases h.2.1.2 with hn | ⟨g', cp, cur, e, hB, hgg, r⟩
  · exact .inl hn
  · exact .inr ⟨g', cp, cur, e, hB, (hb.block _ (Array.getElem?_eq_some_iff.1 hgg).1).trans hgg, r⟩
def RisePost (w : World) (B hp g cap H : Nat) (X : List Th) (next : Int) (e : Ending) (w' : World) : Prop :=
  e = .returned (.tuple #[]) ∧ (∃ X' L', List.Perm X' X ∧ HpO w' B hp (some ⟨g, 0, none⟩) cap H X' next L') ∧ Fr B g w w'
/-- The loop of rise. -/
def RiseRel (w : World) (B hp g cap H : Nat) (X : List Th) (next : Int) (x : Th) (gk : Nat) (s1 : Value) (wr : World) : Prop :=
  ∃ (i : Nat) (Z : List Th) (L : List (Int × Value)), s1 = .int .i64 i ∧ i < Z.length ∧ Z.length = X.length ∧ gk = i ∧ List.Perm (Z.set i x) X ∧ HpO wr B hp (some ⟨g, 0, none⟩) cap H Z next L ∧ Fr B g w wr ∧ wr.heap[w.heap.size]? = some (.cells #[.int .i64 x.1, .int .i64 x.2.1, .int .i64 x.2.2] 91 (0, 0))
set_option maxRecDepth 100000 in
set_option maxHeartbeats 2000000 in
theorem rise_any (w : World) (B hp g cap H : Nat) (X : List Th) (next : Int) (L : List (Int × Value)) (h : HpO w B hp (some ⟨g, 0, none⟩) cap H X next L) (hB : B ≤ H) (hX : X.length ≤ 10000) (i : Nat) (hi : i < X.length) :
    Calls Try.prog 54 #[.pointer (some ⟨hp, 0, none⟩), .int .i64 i] w (RisePost w B hp g cap H X next) := by
  obtain ⟨⟨x0, x1, x2⟩, hx⟩ : ∃ x, X[i]? = some x := ⟨_, List.getElem?_eq_some_iff.2 ⟨hi, rfl⟩⟩
  have H1 := Lib.hid h
  obtain ⟨c0, c1, c2⟩ := h.cells hx
  obtain ⟨hBg, lg, lh, hne⟩ := h.row
  have p1 : w.cell? ⟨hp, 1, none⟩ = some (.slice (some ⟨g, 0, none⟩) X.length cap) := (cell_block h.1).trans rfl
  dsimp only at c0 c1 c2
  have hi' : (i : Int) < X.length := by omega
  have hi5 : i ≤ 10000 := by omega
  have HX := Lib.hid hX; have HXX := Lib.hid hx
  clear h hx hX
  go_enter Try.func54, Try.ntmps54
  go_wp2_with fail
  have XB : Hid ((w.alloc (.cells #[.int .i64 x0, .int .i64 x1, .int .i64 x2] 91)).heap[w.heap.size]? = some (.cells #[.int .i64 x0, .int .i64 x1, .int .i64 x2] 91 (0, 0))) := Lib.hid (MapKept.heap_alloc w _).1
  have XF : Hid (Fr B g w (w.alloc (.cells #[.int .i64 x0, .int .i64 x1, .int .i64 x2] 91))) := Lib.hid ((Fr.refl B g w).alloc (by omega) _)
  have X0 : Hid (HpO (w.alloc (.cells #[.int .i64 x0, .int .i64 x1, .int .i64 x2] 91)) B hp (some ⟨g, 0, none⟩) cap H X next L) := Lib.hid ⟨XF.out.heap H1.out.1 (Ne.symm hne), H1.out.2.1.alloc _, H1.out.2.2.alloc _⟩
  obtain ⟨wc, hwc⟩ : ∃ wc, w.alloc (.cells #[.int .i64 x0, .int .i64 x1, .int .i64 x2] 91) = wc := ⟨_, rfl⟩
  rw [hwc] at XB XF X0 ⊢
  clear hwc p1 c0 c1 c2
  have hgw : ¬ w.heap.size = g := by omega
  go_loopg [1] i (fun gk s1 wr => RiseRel w B hp g cap H X next (x0, x1, x2) gk s1 wr)
  case atStart =>
    refine ⟨i, X, L, rfl, hi, rfl, rfl, ?_, X0.out, XF.out, XB.out⟩
    obtain ⟨_, hx⟩ := List.getElem?_eq_some_iff.1 HXX.out
    rw [← hx, List.set_getElem_self]
  case round =>
    obtain ⟨j, Z, L2, rfl, hj, hZ, hgk, hperm, hz, hf, hb⟩ := hrel
    have HGK := Lib.hid hgk; clear hgk
    have HP := Lib.hid hperm; have HZ := Lib.hid hz; have HF := Lib.hid hf; have HB := Lib.hid hb; have HZL := Lib.hid hZ
    have q1 : wr.cell? ⟨hp, 1, none⟩ = some (.slice (some ⟨g, 0, none⟩) Z.length cap) := (cell_block hz.1).trans rfl
    have k0 : wr.cell? ⟨w.heap.size, 0, none⟩ = some (.int .i64 x0) := (cell_block hb).trans rfl
    have k1 : wr.cell? ⟨w.heap.size, 1, none⟩ = some (.int .i64 x1) := (cell_block hb).trans rfl
    have k2 : wr.cell? ⟨w.heap.size, 2, none⟩ = some (.int .i64 x2) := (cell_block hb).trans rfl
    have hj5 : j ≤ 10000 := by have := HX.out; omega
    clear hperm hz hf hb hZ
    by_cases hj0 : j = 0
    · subst hj0
      go_upto_region 1 with fail
      go_quiet (fail)
      go_wp2_with fail
      refine (lay_any _ B hp g cap H Z next L2 ?h hB (by have := HX.out; have := HZL.out; omega) 0 hj x0 x1 x2).mono ?_
      case h => exact HZ.out
      rintro e w5 hpost
      obtain ⟨rfl, ⟨L5, hz5, _⟩, hf5⟩ := hpost
      have HZ5 := Lib.hid hz5; have HF5 := Lib.hid hf5
      clear hz5 hf5
      go_wp2_with fail
      go_end0
      exact ⟨rfl, ⟨_, L5, HP.out, HZ5.out⟩, (HF.out.drewN _).trans HF5.out⟩
    · obtain ⟨q, hq⟩ : ∃ q, j - 1 = q := ⟨_, rfl⟩
      obtain ⟨p, hpe⟩ : ∃ p, q / 2 = p := ⟨_, rfl⟩
      have hpz : p < Z.length := by omega
      obtain ⟨⟨y0, y1, y2⟩, hy⟩ : ∃ y, Z[p]? = some y := ⟨_, List.getElem?_eq_some_iff.2 ⟨hpz, rfl⟩⟩
      obtain ⟨d0, d1, d2⟩ := HZ.out.cells hy
      dsimp only at d0 d1 d2
      have HY := Lib.hid hy; clear hy
      have hjs : decide (0 < j) = true := by simp; omega
      have hjq : (0 : Int) < j := by omega
      have hw1 : IntKind.i64.wrap ((j : Int) - 1) = (q : Int) := by rw [IntWalk.i64_in _ (by omega)]; omega
      have hw2 : Int.tdiv (q : Int) 2 = (p : Int) := by rw [Int.tdiv_eq_ediv_of_nonneg (by omega)]; omega
      have hw3 : IntKind.i64.wrap (p : Int) = (p : Int) := IntWalk.i64_in _ (by omega)
      have hw4 : (p : Int) < Z.length := by omega
      have hl1 : hp < wr.heap.size := (HZ.out.row).2.2.1
      have hl2 : g < wr.heap.size := (HZ.out.row).2.1
      have hl3 : w.heap.size < wr.heap.size := (Array.getElem?_eq_some_iff.1 HB.out).1
      have HQ := Lib.hid hq; have HPP := Lib.hid hpe
      clear hq hpe
      have KP : Hid (∀ w', Below wr.heap.size wr w' → Below wr.heap.size wr w' ∧ w'.cell? ⟨hp, 1, none⟩ = some (.slice (some ⟨g, 0, none⟩) Z.length cap) ∧ w'.cell? ⟨w.heap.size, 0, none⟩ = some (.int .i64 x0) ∧ w'.cell? ⟨w.heap.size, 1, none⟩ = some (.int .i64 x1) ∧ w'.cell? ⟨w.heap.size, 2, none⟩ = some (.int .i64 x2) ∧ w'.cell? ⟨g, p * 3, none⟩ = some (.int .i64 y0) ∧ w'.cell? ⟨g, p * 3 + 1, none⟩ = some (.int .i64 y1) ∧ w'.cell? ⟨g, p * 3 + 2, none⟩ = some (.int .i64 y2)) := Lib.hid (fun w' hb => ⟨hb, cell_up q1 hb hl1, cell_up k0 hb hl3, cell_up k1 hb hl3, cell_up k2 hb hl3, cell_up d0 hb hl2, cell_up d1 hb hl2, cell_up d2 hb hl2⟩)
      by_cases hah : aheadI (x0, x1, x2) (y0, y1, y2) < 0
      · skip
        go_upto_region 1 with fail
        go_region_held3 (fun w' => Below wr.heap.size wr w' ∧ w'.cell? ⟨hp, 1, none⟩ = some (.slice (some ⟨g, 0, none⟩) Z.length cap) ∧ w'.cell? ⟨w.heap.size, 0, none⟩ = some (.int .i64 x0) ∧ w'.cell? ⟨w.heap.size, 1, none⟩ = some (.int .i64 x1) ∧ w'.cell? ⟨w.heap.size, 2, none⟩ = some (.int .i64 x2) ∧ w'.cell? ⟨g, p * 3, none⟩ = some (.int .i64 y0) ∧ w'.cell? ⟨g, p * 3 + 1, none⟩ = some (.int .i64 y1) ∧ w'.cell? ⟨g, p * 3 + 2, none⟩ = some (.int .i64 y2)) (first | exact KP.out _ (Below.refl _ _).drew | exact KP.out _ (by assumption)) (first | (go_at_call 58; refine (ahead_any _ _ _ _ _ _ _).mono ?_; rintro e w' ⟨rfl, hb⟩; have hbb := below_next (by assumption) hb))
        obtain ⟨hbe, hcells⟩ := (by assumption : Below wr.heap.size wr _ ∧ _)
        obtain ⟨e1, e2, e3, e4, e5, e6, e7⟩ := hcells
        rw [← HPP.out, ← HQ.out] at e5 e6 e7
        clear hw1 hw2 hw3 hw4 d0 d1 d2 k0 k1 k2 q1
        go_wp2_with fail
        refine (lay_any _ B hp g cap H Z next L2 ?h hB (by have := HX.out; have := HZL.out; omega) j hj y0 y1 y2).mono ?_
        case h => exact HZ.out.below hbe
        rintro e w5 hpost
        obtain ⟨rfl, ⟨L5, hz5, _⟩, hf5⟩ := hpost
        have HZ5 := Lib.hid hz5
        have HF5 := Lib.hid ((Fr.of_below (g := g) hbe (by omega)).trans hf5)
        clear hz5 hf5 hbe e1 e2 e3 e4 e5 e6 e7
        go_wp2_with fail
        have ep : ((j : Int) - 1) / 2 = (p : Int) := by have h1 := HPP.out; have h2 := HQ.out; omega
        rw [ep]
        go_roundg p
        case measure => have h1 := HPP.out; have h2 := HQ.out; have h3 := HGK.out; omega
        case rel =>
          have hjp : j ≠ p := by have h1 := HPP.out; have h2 := HQ.out; omega
          have hy : Z[p]'hpz = (y0, y1, y2) := (List.getElem?_eq_some_iff.1 HY.out).2
          have hmv := hole_move Z j p (x0, x1, x2) hj hpz hjp
          rw [hy] at hmv
          exact ⟨p, Z.set j (y0, y1, y2), L5, rfl, by rw [List.length_set]; exact hpz, by rw [List.length_set]; exact HZL.out, rfl, hmv.trans HP.out, HZ5.out, HF.out.trans HF5.out, HF5.out.heap HB.out hgw⟩
      · skip
        go_upto_region 1 with fail
        go_region_held3 (fun w' => Below wr.heap.size wr w' ∧ w'.cell? ⟨hp, 1, none⟩ = some (.slice (some ⟨g, 0, none⟩) Z.length cap) ∧ w'.cell? ⟨w.heap.size, 0, none⟩ = some (.int .i64 x0) ∧ w'.cell? ⟨w.heap.size, 1, none⟩ = some (.int .i64 x1) ∧ w'.cell? ⟨w.heap.size, 2, none⟩ = some (.int .i64 x2) ∧ w'.cell? ⟨g, p * 3, none⟩ = some (.int .i64 y0) ∧ w'.cell? ⟨g, p * 3 + 1, none⟩ = some (.int .i64 y1) ∧ w'.cell? ⟨g, p * 3 + 2, none⟩ = some (.int .i64 y2)) (first | exact KP.out _ (Below.refl _ _).drew | exact KP.out _ (by assumption)) (first | (go_at_call 58; refine (ahead_any _ _ _ _ _ _ _).mono ?_; rintro e w' ⟨rfl, hb⟩; have hbb := below_next (by assumption) hb))
        obtain ⟨hbe, hcells⟩ := (by assumption : Below wr.heap.size wr _ ∧ _)
        obtain ⟨e1, e2, e3, e4, _, _, _⟩ := hcells
        clear hw1 hw2 hw3 hw4 d0 d1 d2 k0 k1 k2 q1
        go_wp2_with fail
        refine (lay_any _ B hp g cap H Z next L2 ?h hB (by have := HX.out; have := HZL.out; omega) j hj x0 x1 x2).mono ?_
        case h => exact HZ.out.below hbe
        rintro e w5 hpost
        obtain ⟨rfl, ⟨L5, hz5, _⟩, hf5⟩ := hpost
        have HZ5 := Lib.hid hz5
        have HF5 := Lib.hid ((Fr.of_below (g := g) hbe (by omega)).trans hf5)
        clear hz5 hf5 hbe e1 e2 e3 e4
        go_wp2_with fail
        go_end0
        exact ⟨rfl, ⟨_, L5, HP.out, HZ5.out⟩, HF.out.trans HF5.out⟩
end Go.Proofs.Ytkpgnopimnamfaa
namespace Go.Proofs.Ytkpgnopimnamfaa
open Go.ChangeShapes Go.WideShapes Go.ChangeAt Go.RowKit
def SinkPost (w : World) (B hp g cap H : Nat) (X : List Th) (next : Int) (n : Int) (e : Ending) (w' : World) : Prop :=
  e = .returned (.tuple #[]) ∧ (∃ (X' : List Th) (L' : List (Int × Value)) (i' : Nat), List.Perm X' X ∧ HpO w' B hp (some ⟨g, 0, none⟩) cap H X' next L' ∧ i' < X'.length ∧ lk L' n = some (.int .i64 i')) ∧ Fr B g w w'
/-- The loop of sink. -/
def SinkRel (w : World) (B hp g cap H : Nat) (X : List Th) (next : Int) (x : Th) (gk : Nat) (s1 : Value) (wr : World) : Prop :=
  ∃ (i : Nat) (Z : List Th) (L : List (Int × Value)), s1 = .int .i64 i ∧ i < Z.length ∧ Z.length = X.length ∧ gk = X.length - i ∧ List.Perm (Z.set i x) X ∧ HpO wr B hp (some ⟨g, 0, none⟩) cap H Z next L ∧ Fr B g w wr ∧ wr.heap[w.heap.size]? = some (.cells #[.int .i64 x.1, .int .i64 x.2.1, .int .i64 x.2.2] 91 (0, 0))
def CutTest (wr : World) (P : Prop) (s : Value) (wx : World) : Prop := ∃ b : Bool, s = .bool b ∧ (b = true → P) ∧ Below wr.heap.size wr wx
def CutPlace (k0 n : Nat) (wc : World) (s : Value) (wx : World) : Prop := ∃ k : Nat, s = .int .i64 k ∧ k0 ≤ k ∧ k < n ∧ wx = wc
set_option maxRecDepth 100000 in
set_option maxHeartbeats 4000000 in
theorem sink_any (w : World) (B hp g cap H : Nat) (X : List Th) (next : Int) (L : List (Int × Value)) (h : HpO w B hp (some ⟨g, 0, none⟩) cap H X next L) (hB : B ≤ H) (hX : X.length ≤ 10000) (i : Nat) (hi : i < X.length) (x0 x1 x2 : Int) (hx : X[i]? = some (x0, x1, x2)) :
    Calls Try.prog 57 #[.pointer (some ⟨hp, 0, none⟩), .int .i64 i] w (SinkPost w B hp g cap H X next x1) := by
  have H1 := Lib.hid h
  obtain ⟨c0, c1, c2⟩ := h.cells hx
  obtain ⟨hBg, lg, lh, hne⟩ := h.row
  have p1 : w.cell? ⟨hp, 1, none⟩ = some (.slice (some ⟨g, 0, none⟩) X.length cap) := (cell_block h.1).trans rfl
  dsimp only at c0 c1 c2
  have hi' : (i : Int) < X.length := by omega
  have hi5 : i ≤ 10000 := by omega
  have HX := Lib.hid hX; have HXX := Lib.hid hx
  clear h hx hX
  go_enter Try.func57, Try.ntmps57
  go_wp2_with fail
  have XB : Hid ((w.alloc (.cells #[.int .i64 x0, .int .i64 x1, .int .i64 x2] 91)).heap[w.heap.size]? = some (.cells #[.int .i64 x0, .int .i64 x1, .int .i64 x2] 91 (0, 0))) := Lib.hid (MapKept.heap_alloc w _).1
  have XF : Hid (Fr B g w (w.alloc (.cells #[.int .i64 x0, .int .i64 x1, .int .i64 x2] 91))) := Lib.hid ((Fr.refl B g w).alloc (by omega) _)
  have X0 : Hid (HpO (w.alloc (.cells #[.int .i64 x0, .int .i64 x1, .int .i64 x2] 91)) B hp (some ⟨g, 0, none⟩) cap H X next L) := Lib.hid ⟨XF.out.heap H1.out.1 (Ne.symm hne), H1.out.2.1.alloc _, H1.out.2.2.alloc _⟩
  obtain ⟨wc, hwc⟩ : ∃ wc, w.alloc (.cells #[.int .i64 x0, .int .i64 x1, .int .i64 x2] 91) = wc := ⟨_, rfl⟩
  rw [hwc] at XB XF X0 ⊢
  clear hwc p1 c0 c1 c2
  have hgw : ¬ w.heap.size = g := by omega
  go_loopg [1] (X.length - i) (fun gk s1 wr => SinkRel w B hp g cap H X next (x0, x1, x2) gk s1 wr)
  case atStart =>
    refine ⟨i, X, L, rfl, hi, rfl, rfl, ?_, X0.out, XF.out, XB.out⟩
    obtain ⟨_, hx⟩ := List.getElem?_eq_some_iff.1 HXX.out
    rw [← hx, List.set_getElem_self]
  case round =>
    obtain ⟨j, Z, L2, rfl, hj, hZ, hgk, hperm, hz, hf, hb⟩ := hrel
    have HGK := Lib.hid hgk; clear hgk
    have HP := Lib.hid hperm; have HZ := Lib.hid hz; have HF := Lib.hid hf; have HB := Lib.hid hb; have HZL := Lib.hid hZ
    have q1 : wr.cell? ⟨hp, 1, none⟩ = some (.slice (some ⟨g, 0, none⟩) Z.length cap) := (cell_block hz.1).trans rfl
    have k0 : wr.cell? ⟨w.heap.size, 0, none⟩ = some (.int .i64 x0) := (cell_block hb).trans rfl
    have k1 : wr.cell? ⟨w.heap.size, 1, none⟩ = some (.int .i64 x1) := (cell_block hb).trans rfl
    have k2 : wr.cell? ⟨w.heap.size, 2, none⟩ = some (.int .i64 x2) := (cell_block hb).trans rfl
    have hj5 : j ≤ 10000 := by have := HX.out; omega
    have hzl5 : Z.length ≤ 10000 := by have := HX.out; omega
    have hl1 : hp < wr.heap.size := (HZ.out.row).2.2.1
    have hl2 : g < wr.heap.size := (HZ.out.row).2.1
    have hl3 : w.heap.size < wr.heap.size := (Array.getElem?_eq_some_iff.1 HB.out).1
    clear hperm hz hf hb hZ
    by_cases hk : Z.length ≤ 2 * j + 1
    · have hk2 : (Z.length : Int) ≤ 2 * j + 1 := by omega
      go_wp2_with fail
      refine (lay_any _ B hp g cap H Z next L2 ?h hB hzl5 j hj x0 x1 x2).mono ?_
      case h => exact HZ.out
      rintro e w5 hpost
      obtain ⟨rfl, ⟨L5, hz5, hl5⟩, hf5⟩ := hpost
      have HZ5 := Lib.hid hz5; have HF5 := Lib.hid hf5; have HL5 := Lib.hid hl5
      clear hz5 hf5 hl5
      go_wp2_with fail
      go_end0
      exact ⟨rfl, ⟨_, L5, j, HP.out, HZ5.out, by rw [List.length_set]; exact hj, HL5.out⟩, HF.out.trans HF5.out⟩
    · have hk2 : ¬ (Z.length : Int) ≤ 2 * j + 1 := by omega
      go_upto_region 3 with fail
      obtain ⟨m, hm⟩ : ∃ m, 2 * j + 1 = m := ⟨_, rfl⟩
      have em : (2 * (j : Int) + 1) = (m : Int) := by omega
      rw [em]
      have HM := Lib.hid hm
      have hmz : m < Z.length := by omega
      clear hk hk2 em hm
      go_cut [49] (fun s49 wx => CutTest wr (m + 1 < Z.length) s49 wx)
      case first =>
        obtain ⟨n, hn⟩ : ∃ n, m + 1 = n := ⟨_, rfl⟩
        have hw1 : IntKind.i64.wrap ((m : Int) + 1) = (n : Int) := by rw [IntWalk.i64_in _ (by omega)]; omega
        have HN := Lib.hid hn
        have hmi : (m : Int) < Z.length := by omega
        by_cases hnl : n < Z.length
        · have hni : (n : Int) < Z.length := by omega
          obtain ⟨⟨y0, y1, y2⟩, hy⟩ : ∃ y, Z[n]? = some y := ⟨_, List.getElem?_eq_some_iff.2 ⟨hnl, rfl⟩⟩
          obtain ⟨⟨z0, z1, z2⟩, hzz⟩ : ∃ y, Z[m]? = some y := ⟨_, List.getElem?_eq_some_iff.2 ⟨hmz, rfl⟩⟩
          obtain ⟨d0, d1, d2⟩ := HZ.out.cells hy
          obtain ⟨e0, e1, e2⟩ := HZ.out.cells hzz
          dsimp only at d0 d1 d2 e0 e1 e2
          have hd : decide (n < Z.length) = true := by simpa using hnl
          have KP : Hid (∀ w', Below wr.heap.size wr w' → Below wr.heap.size wr w' ∧ w'.cell? ⟨hp, 1, none⟩ = some (.slice (some ⟨g, 0, none⟩) Z.length cap) ∧ w'.cell? ⟨g, n * 3, none⟩ = some (.int .i64 y0) ∧ w'.cell? ⟨g, n * 3 + 1, none⟩ = some (.int .i64 y1) ∧ w'.cell? ⟨g, n * 3 + 2, none⟩ = some (.int .i64 y2) ∧ w'.cell? ⟨g, m * 3, none⟩ = some (.int .i64 z0) ∧ w'.cell? ⟨g, m * 3 + 1, none⟩ = some (.int .i64 z1) ∧ w'.cell? ⟨g, m * 3 + 2, none⟩ = some (.int .i64 z2)) := Lib.hid (fun w' hb => ⟨hb, cell_up q1 hb hl1, cell_up d0 hb hl2, cell_up d1 hb hl2, cell_up d2 hb hl2, cell_up e0 hb hl2, cell_up e1 hb hl2, cell_up e2 hb hl2⟩)
          clear hy hzz hn
          go_region_held3 (fun w' => Below wr.heap.size wr w' ∧ w'.cell? ⟨hp, 1, none⟩ = some (.slice (some ⟨g, 0, none⟩) Z.length cap) ∧ w'.cell? ⟨g, n * 3, none⟩ = some (.int .i64 y0) ∧ w'.cell? ⟨g, n * 3 + 1, none⟩ = some (.int .i64 y1) ∧ w'.cell? ⟨g, n * 3 + 2, none⟩ = some (.int .i64 y2) ∧ w'.cell? ⟨g, m * 3, none⟩ = some (.int .i64 z0) ∧ w'.cell? ⟨g, m * 3 + 1, none⟩ = some (.int .i64 z1) ∧ w'.cell? ⟨g, m * 3 + 2, none⟩ = some (.int .i64 z2)) (first | exact KP.out _ (Below.refl _ _).drew | exact KP.out _ (by assumption)) (first | (go_at_call 58; refine (ahead_any _ _ _ _ _ _ _).mono ?_; rintro e w' ⟨rfl, hb⟩; have hbb := below_next (by assumption) hb))
          obtain ⟨hbe, _⟩ := (by assumption : Below wr.heap.size wr _ ∧ _)
          go_wp2_with fail
          go_meet
          exact ⟨_, rfl, fun _ => by rw [HN.out]; exact hnl, hbe⟩
        · have hni : ¬ (n : Int) < Z.length := by omega
          have hd : decide (n < Z.length) = false := by simpa using hnl
          clear hn
          go_quiet (fail)
          go_wp2_with fail
          go_meet
          exact ⟨false, rfl, (fun h => absurd h (by decide)), ⟨rfl, rfl, rfl, Nat.le_refl _, fun _ _ => rfl⟩⟩
      case rest =>
        obtain ⟨b, rfl, hbn, hbe⟩ := hcut
        have hp' := (HZ.out.below hbe)
        have HZ' := Lib.hid hp'
        have r1 := cell_up q1 hbe hl1
        have r2 := cell_up k0 hbe hl3
        have r3 := cell_up k1 hbe hl3
        have r4 := cell_up k2 hbe hl3
        have HBE := Lib.hid hbe; have HBN := Lib.hid hbn
        clear q1 k0 k1 k2 hbe hbn hp'
        obtain ⟨ws, hws⟩ : ∃ ws, wc = ws := ⟨_, rfl⟩
        rw [hws] at HZ' r1 r2 r3 r4 HBE ⊢
        clear hws
        go_upto_if 49 with fail
        go_cut [5] (fun s5 wx => CutPlace m Z.length ws s5 wx)
        case first =>
          cases b
          · go_wp2_with fail
            go_meet
            exact ⟨m, rfl, Nat.le_refl _, hmz, rfl⟩
          · have hb2 := HBN.out rfl
            have hm5 : m ≤ 30000 := by omega
            go_wp2_with fail
            go_meet
            exact ⟨m + 1, by go_num, by omega, hb2, rfl⟩
        case rest =>
          obtain ⟨k, rfl, hmk, hkz, rfl⟩ := hcut
          obtain ⟨⟨y0, y1, y2⟩, hy⟩ : ∃ y, Z[k]? = some y := ⟨_, List.getElem?_eq_some_iff.2 ⟨hkz, rfl⟩⟩
          obtain ⟨d0, d1, d2⟩ := HZ'.out.cells hy
          dsimp only at d0 d1 d2
          have HY := Lib.hid hy; clear hy
          have hl1' : hp < wc.heap.size := (HZ'.out.row).2.2.1
          have hl2' : g < wc.heap.size := (HZ'.out.row).2.1
          have hl3' : w.heap.size < wc.heap.size := by have := HBE.out.size; omega
          have hki : (k : Int) < Z.length := by omega
          have hk5 : k ≤ 10000 := by omega
          have KP : Hid (∀ w', Below wc.heap.size wc w' → Below wc.heap.size wc w' ∧ w'.cell? ⟨hp, 1, none⟩ = some (.slice (some ⟨g, 0, none⟩) Z.length cap) ∧ w'.cell? ⟨w.heap.size, 0, none⟩ = some (.int .i64 x0) ∧ w'.cell? ⟨w.heap.size, 1, none⟩ = some (.int .i64 x1) ∧ w'.cell? ⟨w.heap.size, 2, none⟩ = some (.int .i64 x2) ∧ w'.cell? ⟨g, k * 3, none⟩ = some (.int .i64 y0) ∧ w'.cell? ⟨g, k * 3 + 1, none⟩ = some (.int .i64 y1) ∧ w'.cell? ⟨g, k * 3 + 2, none⟩ = some (.int .i64 y2)) := Lib.hid (fun w' hb => ⟨hb, cell_up r1 hb hl1', cell_up r2 hb hl3', cell_up r3 hb hl3', cell_up r4 hb hl3', cell_up d0 hb hl2', cell_up d1 hb hl2', cell_up d2 hb hl2'⟩)
          go_upto_region 5 with fail
          go_cut [61] (fun s61 wx => CutTest wc True s61 wx)
          case first =>
            go_region_held3 (fun w' => Below wc.heap.size wc w' ∧ w'.cell? ⟨hp, 1, none⟩ = some (.slice (some ⟨g, 0, none⟩) Z.length cap) ∧ w'.cell? ⟨w.heap.size, 0, none⟩ = some (.int .i64 x0) ∧ w'.cell? ⟨w.heap.size, 1, none⟩ = some (.int .i64 x1) ∧ w'.cell? ⟨w.heap.size, 2, none⟩ = some (.int .i64 x2) ∧ w'.cell? ⟨g, k * 3, none⟩ = some (.int .i64 y0) ∧ w'.cell? ⟨g, k * 3 + 1, none⟩ = some (.int .i64 y1) ∧ w'.cell? ⟨g, k * 3 + 2, none⟩ = some (.int .i64 y2)) (first | exact KP.out _ (Below.refl _ _).drew | exact KP.out _ (by assumption)) (first | (go_at_call 58; refine (ahead_any _ _ _ _ _ _ _).mono ?_; rintro e w' ⟨rfl, hb⟩; have hbb := below_next (by assumption) hb))
            obtain ⟨hbe, _⟩ := (by assumption : Below wc.heap.size wc _ ∧ _)
            go_wp2_with fail
            go_meet
            exact ⟨_, rfl, fun _ => trivial, hbe⟩
          case rest =>
            obtain ⟨b2, rfl, _, hbe2⟩ := hcut
            have HZ3 := Lib.hid (HZ'.out.below hbe2)
            have t1 := cell_up r1 hbe2 hl1'
            have t2 := cell_up r2 hbe2 hl3'
            have t3 := cell_up r3 hbe2 hl3'
            have t4 := cell_up r4 hbe2 hl3'
            have v0 := cell_up d0 hbe2 hl2'
            have v1 := cell_up d1 hbe2 hl2'
            have v2 := cell_up d2 hbe2 hl2'
            have BEL := Lib.hid ((HBE.out).trans (hbe2.mono HBE.out.size))
            obtain ⟨wt, hwt⟩ : ∃ wt, wc = wt := ⟨_, rfl⟩
            rw [hwt] at HZ3 t1 t2 t3 t4 v0 v1 v2 BEL ⊢
            clear hwt r1 r2 r3 r4 d0 d1 d2 hbe2
            cases b2
            · go_wp2_with fail
              refine (lay_any wt B hp g cap H Z next L2 HZ3.out hB hzl5 j hj y0 y1 y2).mono ?_
              rintro e w5 hpost
              obtain ⟨rfl, ⟨L5, hz5, _⟩, hf5⟩ := hpost
              have HZ5 := Lib.hid hz5
              have HF5 := Lib.hid ((Fr.of_below (g := g) BEL.out (by omega)).trans hf5)
              clear hz5 hf5 t1 t2 t3 t4 v0 v1 v2
              go_wp2_with fail
              go_roundg (X.length - k)
              case measure => have h1 := HM.out; have h3 := HGK.out; have h4 := HZL.out; omega
              case rel =>
                have hjk : j ≠ k := by have h1 := HM.out; omega
                have hyk : Z[k]'hkz = (y0, y1, y2) := (List.getElem?_eq_some_iff.1 HY.out).2
                have hmv := hole_move Z j k (x0, x1, x2) hj hkz hjk
                rw [hyk] at hmv
                exact ⟨k, Z.set j (y0, y1, y2), L5, rfl, by rw [List.length_set]; exact hkz, by rw [List.length_set]; exact HZL.out, rfl, hmv.trans HP.out, HZ5.out, HF.out.trans HF5.out, HF5.out.heap HB.out hgw⟩
            · go_wp2_with fail
              refine (lay_any wt B hp g cap H Z next L2 HZ3.out hB hzl5 j hj x0 x1 x2).mono ?_
              rintro e w5 hpost
              obtain ⟨rfl, ⟨L5, hz5, hl5⟩, hf5⟩ := hpost
              have HZ5 := Lib.hid hz5; have HL5 := Lib.hid hl5
              have HF5 := Lib.hid ((Fr.of_below (g := g) BEL.out (by omega)).trans hf5)
              clear hz5 hf5 hl5 t1 t2 t3 t4 v0 v1 v2
              go_wp2_with fail
              go_end0
              exact ⟨rfl, ⟨_, L5, j, HP.out, HZ5.out, by rw [List.length_set]; exact hj, HL5.out⟩, HF.out.trans HF5.out⟩
end Go.Proofs.Ytkpgnopimnamfaa
