/- wakes: a loop's code. -/
import Derived.Test.YtkpgnopimnamfaaF1
namespace Go.Proofs.Ytkpgnopimnamfaa
open Go.ChangeShapes Go.WideShapes Go.ChangeAt Go.RowKit
/-- while true, nothing. -/
def loopT : Ro := .node (1, 1, 0, ⟨#[102]⟩) [.node (3, 1, 0, ⟨#[]⟩) [.node (7, 2, 0, ⟨#[]⟩) [.node (21, 0, 0, ⟨#[]⟩) [], .node (3, 0, 0, ⟨#[]⟩) []]]]
def loopC : List Ins := [(21, 0, 0, noT), (2, 3, 0, noT), (1, 0, 0, noT), (28, 0, 0, noT)]
theorem loop_spec : treeSpec loopT.flat = (0, 0) := by decide +kernel
theorem loop_ok : okR (fun _ => true) loopT := by
  unfold loopT
  refine ⟨by decide +kernel, rfl, ⟨by decide +kernel, rfl, ⟨by decide +kernel, rfl, ⟨by decide +kernel, rfl, trivial⟩, ⟨by decide +kernel, rfl, trivial⟩, trivial⟩, trivial⟩, trivial⟩
theorem loop_slots : sl [] 0 loopT = (⟨#[]⟩, -1, 0, [-1, -1, -1, -1, -1], 0, 5) := by decide +kernel
theorem loop_gen : gen (fun k => ([-1, -1, -1, -1, -1] : List Int).getD k 0) loopT 0 0 = loopC := by decide +kernel
theorem loop_is : SlotsIs loopT.flat (some [-1, -1, -1, -1, -1]) 0 0 := by
  refine .inr ⟨by rw [loop_spec], _, _, rfl, loop_ok, by decide +kernel, .inr (.inr ⟨rfl, ?_, ?_, rfl, rfl⟩)⟩
  · rw [show Ro.node _ _ = loopT from rfl, loop_slots]
  · rw [show Ro.node _ _ = loopT from rfl, loop_slots]
theorem add_zero_at (g j : Nat) : (⟨g, 0, none⟩ : Addr).add j = ⟨g, j, none⟩ := by unfold Addr.add; split <;> simp_all
theorem tree_row {w : World} {N : Nat} {cells : Array Value} {t : TypeId} {fz : Nat × Nat} (h : w.heap[N]? = some (.cells cells t fz)) {T : List Tw} (hc : cells.toList = codeCells T) {B : Nat} (hB : N < B) : TreeAt w (some ⟨N, 0, none⟩) B T := fun k x hx => by
  have hk := codeCells_at T k x hx
  have hcell : ∀ j, j < 4 → w.cell? ⟨N, k * 4 + j, none⟩ = (insCells x)[j]? := fun j hj => by
    rw [cell_block h, ← hk j hj, ← hc, Array.getElem?_toList]
  refine ⟨⟨N, 0, none⟩, rfl, hB, ?_⟩
  rw [add_zero_at]
  exact ⟨hcell 0 (by omega), hcell 1 (by omega), hcell 2 (by omega), hcell 3 (by omega)⟩
set_option maxHeartbeats 1000000 in
theorem loop_any (w : World) : Calls Try.prog 10 #[] w fun e w' => e = .returned (.slice (some ⟨w.heap.size, 0, none⟩) 5 5) ∧ TreeAt w' (some ⟨w.heap.size, 0, none⟩) w'.heap.size loopT.flat ∧ Below w.heap.size w w' := by
  go_enter Try.func10, Try.ntmps10
  go_wp2_with fail
  go_ret
  exact ⟨rfl, tree_row (MapKept.heap_alloc w _).1 rfl (by simp), (Below.refl _ w).alloc (Nat.le_refl _) _⟩
/-- Instructions' cells. -/
def CodeAt (w : World) (ao : Option Addr) (C : List Ins) : Prop := ∀ (k : Nat) (x : Ins), C[k]? = some x → ∃ g, ao = some ⟨g, 0, none⟩ ∧ w.cell? ⟨g, k * 4, none⟩ = some (.int .u8 x.1) ∧ w.cell? ⟨g, k * 4 + 1, none⟩ = some (.int .i64 x.2.1) ∧ w.cell? ⟨g, k * 4 + 2, none⟩ = some (.int .i64 x.2.2.1) ∧ w.cell? ⟨g, k * 4 + 3, none⟩ = some (.string x.2.2.2)
theorem code_own {w : World} {B n cp : Nat} {ao : Option Addr} {C : List Ins} (h : w.ownsRow B 33 4 (.slice ao n cp) n (codeCells C)) : CodeAt w ao C := fun k x hx => by
  rcases h.2 with ⟨e, h0⟩ | ⟨g, cap, cur, e, hb, hg, hc, hm, hs, ht⟩
  · have h1 := h.1
    rw [h0, codeCells_len] at h1
    have : C = [] := List.eq_nil_of_length_eq_zero (by omega)
    subst this; simp at hx
  · cases e
    have hk := codeCells_at C k x hx
    have hcell : ∀ j, j < 4 → w.cell? ⟨g, k * 4 + j, none⟩ = (insCells x)[j]? := fun j hj => by
      rw [← hk j hj]
      have := h.cells rfl (k * 4 + j)
      have hl : k * 4 + j < (codeCells C).length := by
        have := (List.getElem?_eq_some_iff.1 hx).1
        rw [codeCells_len]; omega
      rw [List.getElem?_eq_getElem hl]
      have h2 := this _ (List.getElem?_eq_getElem hl)
      rwa [add_zero_at] at h2
    exact ⟨g, rfl, hcell 0 (by omega), hcell 1 (by omega), hcell 2 (by omega), hcell 3 (by omega)⟩
theorem code_row {w : World} {N : Nat} {cells : Array Value} {t : TypeId} {fz : Nat × Nat} (h : w.heap[N]? = some (.cells cells t fz)) {C : List Ins} (hc : cells.toList = codeCells C) : CodeAt w (some ⟨N, 0, none⟩) C := fun k x hx => by
  have hk := codeCells_at C k x hx
  have hcell : ∀ j, j < 4 → w.cell? ⟨N, k * 4 + j, none⟩ = (insCells x)[j]? := fun j hj => by
    rw [cell_block h, ← hk j hj, ← hc, Array.getElem?_toList]
  exact ⟨_, rfl, hcell 0 (by omega), hcell 1 (by omega), hcell 2 (by omega), hcell 3 (by omega)⟩
theorem CodeAt.up {w w' : World} {B : Nat} {ao : Option Addr} {C : List Ins} (h : CodeAt w ao C) (hb : Below B w w') (hB : w.heap.size ≤ B) : CodeAt w' ao C := fun k x hx => by
  obtain ⟨g, h0, h1, h2, h3, h4⟩ := h k x hx
  exact ⟨g, h0, cell_up h1 hb (Nat.lt_of_lt_of_le (cell_lt h1) hB), cell_up h2 hb (Nat.lt_of_lt_of_le (cell_lt h2) hB), cell_up h3 hb (Nat.lt_of_lt_of_le (cell_lt h3) hB), cell_up h4 hb (Nat.lt_of_lt_of_le (cell_lt h4) hB)⟩
set_option maxHeartbeats 1000000 in
theorem alike_any (w : World) (ao bo : Option Addr) (c1 c2 : Nat) (C : List Ins) (hC : C.length ≤ 10000) (h1 : CodeAt w ao C) (h2 : CodeAt w bo C) :
    Calls Try.prog 11 #[.slice ao C.length c1, .slice bo C.length c2] w fun e w' => e = .returned (.bool true) ∧ Below w.heap.size w w' := by
  have H1 := Lib.hid h1; have H2 := Lib.hid h2; have HC := Lib.hid hC; clear h1 h2 hC
  go_enter Try.func11, Try.ntmps11
  go_wp2_with fail
  go_loopw [5] (fun s5 wr => ∃ k : Nat, k ≤ C.length ∧ s5 = .int .i64 k ∧ Below w.heap.size w wr) (fun s5 _ => C.length - (intOf s5).toNat)
  case atStart => exact ⟨0, Nat.zero_le _, rfl, Below.refl _ _⟩
  case round =>
    obtain ⟨k, hk, rfl, hb⟩ := hrel
    have HB := Lib.hid hb; clear hb
    by_cases hlt : k < C.length
    · obtain ⟨x, hx⟩ : ∃ x, C[k]? = some x := ⟨_, List.getElem?_eq_some_iff.2 ⟨hlt, rfl⟩⟩
      obtain ⟨g1, rfl, p0, p1, p2, p3⟩ := (H1.out.up HB.out (Nat.le_refl _)) k x hx
      obtain ⟨g2, rfl, q0, q1, q2, q3⟩ := (H2.out.up HB.out (Nat.le_refl _)) k x hx
      obtain ⟨x0, x1, x2, x3⟩ := x
      dsimp only at p0 p1 p2 p3 q0 q1 q2 q3
      have hk5 : k ≤ 10000 := by have := HC.out; omega
      have hlt' : (k : Int) < C.length := by omega
      clear hx
      go_wp2_with fail
      go_quiet (fail)
      go_wp2_with fail
      go_roundw
      case rel => exact ⟨k + 1, by omega, by go_num, ⟨HB.out.os, HB.out.tape, HB.out.output, HB.out.size, HB.out.block⟩⟩
      case measure => simp [intOf]; omega
    · have hlt' : ¬ (k : Int) < C.length := by omega
      go_wp2_with fail
      go_ret
      exact ⟨rfl, HB.out⟩
set_option maxRecDepth 100000 in
set_option maxHeartbeats 1000000 in
theorem wakes_any (w : World) : Calls Try.prog 5 #[] w fun e w' => e = .returned (.bool true) ∧ Below w.heap.size w w' := by
  go_enter Try.func5, Try.ntmps5
  go_wp2_with fail
  refine (loop_any w).mono ?_
  rintro e w1 ⟨rfl, hA, hB⟩
  have HA := Lib.hid hA; have HB := Lib.hid hB; clear hA hB
  go_wp2_with fail
  have hlen : loopT.flat.length = 5 := rfl
  have hc := compile_ok w1 (some ⟨w.heap.size, 0, none⟩) 5 1 0 ⟨#[102]⟩ _ loopT.flat rfl loop_ok (by decide +kernel) HA.out [-1, -1, -1, -1, -1] loop_is rfl loopC loop_gen
  rw [hlen] at hc
  refine hc.mono ?_
  rintro e w2 hp
  obtain ⟨ao, cp, rfl, hown, hb⟩ := hp
  have HO := Lib.hid (code_own hown); have HB2 := Lib.hid (HB.out.trans (hb.mono HB.out.size))
  clear hown hb hc hlen
  have hl4 : loopC.length = 4 := rfl
  go_wp2_with fail
  refine (alike_any _ ao (some ⟨w2.heap.size, 0, none⟩) cp 4 loopC (by decide) (HO.out.up ((Below.refl _ w2).alloc (Nat.le_refl _) _) (Nat.le_refl _)) (code_row (MapKept.heap_alloc w2 _).1 rfl)).mono ?_
  rintro e w3 ⟨rfl, hb3⟩
  have HB3 := Lib.hid ((HB2.out.alloc HB2.out.size _).trans (hb3.mono (by simp; have := HB2.out.size; omega)))
  clear hb3
  go_wp2_with fail
  go_ret
  exact ⟨rfl, HB3.out⟩
end Go.Proofs.Ytkpgnopimnamfaa
