/- The emitter: op, hole, and what fills a hole in. -/
import Derived.Test.YtkpgnopimnamfaaE0
import Derived.Deep.QuietTactic
namespace Go.Proofs.Ytkpgnopimnamfaa
open Go.ChangeShapes Go.WideShapes Go.ChangeAt Go.RowKit
set_option maxHeartbeats 1000000 in
theorem op_any (w : World) (B G : Nat) (hB : B ≤ G) (tv sv : Value) (a : Nat) (C : List Ins) (h : GoAt w B G tv sv a C) (hC : C.length ≤ 10000) (op : Int) :
    Calls Try.prog 19 #[ptr G, .int .u8 op] w fun e w' => e = .returned (.tuple #[]) ∧ GoAt w' B G tv sv a (C ++ [(op, 0, 0, ⟨#[]⟩)]) ∧ Sv B G w w' := by
  have H := Lib.hid h; clear h
  have HC := Lib.hid hC; clear hC
  go_enter Try.func19, Try.ntmps19
  go_wp2_with fail
  refine (put_any w B G hB tv sv a C H.out HC.out op 0 0 ⟨#[]⟩).mono ?_
  rintro e w1 ⟨rfl, h1, h2⟩
  have H1 := Lib.hid h1; have H2 := Lib.hid h2; clear h1 h2
  go_wp2_with fail
  go_end0
  exact ⟨rfl, H1.out, H2.out⟩
/-- Behind a hole. -/
def HolePost (w : World) (B G : Nat) (tv sv : Value) (a : Nat) (C : List Ins) (op : Int) (e : Ending) (w' : World) : Prop :=
  ∃ b1 b2, e = .returned (.func (.func 34) #[] #[ptr b1, ptr b2]) ∧ w.heap.size ≤ b1 ∧ w.heap.size ≤ b2 ∧ Boxed w' b1 80 (ptr G) ∧ Boxed w' b2 3 (.int .i64 C.length) ∧ GoAt w' B G tv sv a (C ++ [(op, 0, 0, ⟨#[]⟩)]) ∧ Sv B G w w'
theorem GoAt.alloc {w : World} {B G : Nat} {tv sv : Value} {a : Nat} {C : List Ins} (h : GoAt w B G tv sv a C) (o : Obj) : GoAt (w.alloc o) B G tv sv a C := by
  obtain ⟨ao, cap, h1, h2⟩ := h
  exact ⟨ao, cap, ((MapKept.heap_alloc w o).2 G (Array.getElem?_eq_some_iff.1 h1).1).trans h1, h2.alloc o⟩
theorem GoAt.lt {w : World} {B G : Nat} {tv sv : Value} {a : Nat} {C : List Ins} (h : GoAt w B G tv sv a C) : G < w.heap.size := by
  obtain ⟨ao, cap, h1, h2⟩ := h
  exact (Array.getElem?_eq_some_iff.1 h1).1
set_option maxHeartbeats 1000000 in
theorem hole_any (w : World) (B G : Nat) (hB : B ≤ G) (tv sv : Value) (a : Nat) (C : List Ins) (h : GoAt w B G tv sv a C) (hC : C.length ≤ 10000) (op : Int) :
    Calls Try.prog 20 #[ptr G, .int .u8 op] w (HolePost w B G tv sv a C op) := by
  have H := Lib.hid h; clear h
  have HC := Lib.hid hC; clear hC
  have hlt := H.out.lt
  go_enter Try.func20, Try.ntmps20
  go_wp2_with fail
  refine (put_any _ B G hB tv sv a C (H.out.alloc _) HC.out op 0 0 ⟨#[]⟩).mono ?_
  rintro e w1 ⟨rfl, h1, h2⟩
  have k1 : Hid (Boxed w1 w.heap.size 80 (ptr G)) := Lib.hid (h2.box (Boxed.new w 80 (ptr G)) (by omega) (by decide))
  have hz : w.heap.size < w1.heap.size := by have := h2.size; simp at this; omega
  have H1 := Lib.hid h1; have H2 := Lib.hid h2; clear h1 h2
  go_wp2_with fail
  go_ret
  exact ⟨w.heap.size, w1.heap.size, rfl, Nat.le_refl _, Nat.le_of_lt hz, k1.out.alloc _, Boxed.new w1 3 _, H1.out.alloc _, (((Sv.refl B G w).alloc (by omega) _).trans H2.out).alloc (by omega) _⟩
theorem fillAt_eq {C : List Ins} {k : Nat} {x : Ins} (h : C[k]? = some x) (v : Int) : fillAt C k v = C.set k (x.1, v, x.2.2) := by
  unfold fillAt
  obtain ⟨hlt, rfl⟩ := List.getElem?_eq_some_iff.1 h
  apply List.ext_getElem?
  intro i
  rw [List.getElem?_modify, List.getElem?_set]
  by_cases h : k = i
  · subst h; simp [hlt]
  · simp [h]
theorem fill_in {w : World} {B g : Nat} {cur : Array Value} (hg : w.heap[g]? = some (.cells cur 33 (0, 0))) {cap : Nat} {C : List Ins} {k : Nat} (hk : k < C.length) (hown : w.ownsRow B 33 4 (.slice (some ⟨g, 0, none⟩) C.length cap) C.length (codeCells C)) (v : Int) :
    (w.setCell ⟨g, k * 4 + 1, none⟩ (.int .i64 v)).ownsRow B 33 4 (.slice (some ⟨g, 0, none⟩) (fillAt C k v).length cap) (fillAt C k v).length (codeCells (fillAt C k v)) := by
  rcases hown.2 with ⟨e, _⟩ | ⟨g', cap', cur', e, hb, hg', hc, hm, hs, ht⟩
  · cases e
  · cases e
    rw [hg] at hg'
    cases hg'
    refine ⟨by rw [codeCells_len], .inr ⟨g, cap, cur.setIfInBounds (k * 4 + 1) (.int .i64 v), rfl, hb, setCell_at hg _, by rw [fillAt_len]; exact hc, hm, by simpa using hs, ?_⟩⟩
    rw [fillAt_len, Array.toList_setIfInBounds, List.take_set, ht]
    exact codeCells_fill C k v hk
theorem fill_post {w : World} {B G : Nat} {tv sv : Value} {a : Nat} {C : List Ins} {g cap k : Nat} {cur : Array Value} (hG : w.heap[G]? = some (.cells #[.slice (some ⟨g, 0, none⟩) C.length cap, tv, sv, .int .i64 a] 48 (0, 0))) (hown : w.ownsRow B 33 4 (.slice (some ⟨g, 0, none⟩) C.length cap) C.length (codeCells C)) (hg : w.heap[g]? = some (.cells cur 33 (0, 0))) (hk : k < C.length) (v : Int) :
    GoAt (w.setCell ⟨g, k * 4 + 1, none⟩ (.int .i64 v)).drew B G tv sv a (fillAt C k v) ∧ Sv B G w (w.setCell ⟨g, k * 4 + 1, none⟩ (.int .i64 v)).drew := by
  have hBg : B ≤ g := (hown.lt g rfl).1
  refine ⟨⟨some ⟨g, 0, none⟩, cap, ?_, fill_in hg hk hown v⟩, ((Sv.refl B G w).setRow hg hBg _ _).drew⟩
  rw [fillAt_len]
  refine (Below.heap_setCell _ _ _ _ (fun e => ?_)).trans hG
  have e' : G = g := e
  rw [e', hg] at hG
  cases hG
set_option maxHeartbeats 1000000 in
theorem fill_any (w : World) (B G : Nat) (tv sv : Value) (a : Nat) (C : List Ins) (h : GoAt w B G tv sv a C) (hC : C.length ≤ 10000) (b1 b2 k : Nat) (h1 : Boxed w b1 80 (ptr G)) (h2 : Boxed w b2 3 (.int .i64 k)) (hk : k < C.length) :
    Calls Try.prog 34 #[ptr b1, ptr b2] w fun e w' => e = .returned (.tuple #[]) ∧ GoAt w' B G tv sv a (fillAt C k C.length) ∧ Sv B G w w' := by
  have H := Lib.hid h
  have HC := Lib.hid hC; clear hC
  obtain ⟨ao, cap, hG, hown⟩ := h
  obtain ⟨g, rfl, cur, hg, hcs, hct⟩ : ∃ g, ao = some ⟨g, 0, none⟩ ∧ ∃ cur, w.heap[g]? = some (.cells cur 33 (0, 0)) ∧ C.length * 4 ≤ cur.size ∧ cur.toList.take (C.length * 4) = codeCells C := by
    rcases hown.2 with ⟨_, h0⟩ | ⟨g, cap', cur, e, hb, hg, hc, _, hs, ht⟩
    · omega
    · cases e
      exact ⟨g, rfl, cur, hg, by rw [hs]; omega, ht⟩
  have c0 : w.cell? ⟨G, 0, none⟩ = some (.slice (some ⟨g, 0, none⟩) C.length cap) := (cell_block hG).trans rfl
  have c1 := h1.cell
  have c2 := h2.cell
  have c3 : ∃ v, w.cell? ⟨g, k * 4 + 1, none⟩ = some v := by
    rw [cell_block hg]
    exact ⟨_, Array.getElem?_eq_getElem (by omega)⟩
  obtain ⟨v3, c3⟩ := c3
  have f3 : w.frozen? ⟨g, k * 4 + 1, none⟩ = false := frozen_block hg
  have hk' : (k : Int) < C.length := by omega
  have hk5 : k ≤ 10000 := by have := HC.out; omega
  have HG := Lib.hid hG; have HOWN := Lib.hid hown; have HGG := Lib.hid hg
  clear hG hown hg h1 h2 hct
  go_enter Try.func34, Try.ntmps34
  go_wp2_with fail
  have HD : Hid (GoAt w.drew B G tv sv a C) := Lib.hid H.out
  go_region_law (go_simp; go_at_call 21; refine (here_any _ B G tv sv a C HD.out).mono ?_; rintro e w' ⟨rfl, rfl⟩)
  all_goals
    go_end0
    have hp := fill_post HG.out HOWN.out HGG.out hk C.length
    exact ⟨rfl, hp.1, hp.2⟩
set_option maxHeartbeats 1000000 in
theorem fill_deferred (w : World) (B G : Nat) (tv sv : Value) (a : Nat) (C : List Ins) (h : GoAt w B G tv sv a C) (hC : C.length ≤ 10000) (b1 b2 k : Nat) (h1 : Boxed w b1 80 (ptr G)) (h2 : Boxed w b2 3 (.int .i64 k)) (hk : k < C.length) (u : FrameMode) :
    CallsD Try.prog 34 #[ptr b1, ptr b2] u w fun e u' w' => u' = u ∧ e = .returned (.tuple #[]) ∧ GoAt w' B G tv sv a (fillAt C k C.length) ∧ Sv B G w w' := by
  have H := Lib.hid h
  have HC := Lib.hid hC; clear hC
  obtain ⟨ao, cap, hG, hown⟩ := h
  obtain ⟨g, rfl, cur, hg, hcs, hct⟩ : ∃ g, ao = some ⟨g, 0, none⟩ ∧ ∃ cur, w.heap[g]? = some (.cells cur 33 (0, 0)) ∧ C.length * 4 ≤ cur.size ∧ cur.toList.take (C.length * 4) = codeCells C := by
    rcases hown.2 with ⟨_, h0⟩ | ⟨g, cap', cur, e, hb, hg, hc, _, hs, ht⟩
    · omega
    · cases e
      exact ⟨g, rfl, cur, hg, by rw [hs]; omega, ht⟩
  have c0 : w.cell? ⟨G, 0, none⟩ = some (.slice (some ⟨g, 0, none⟩) C.length cap) := (cell_block hG).trans rfl
  have c1 := h1.cell
  have c2 := h2.cell
  have c3 : ∃ v, w.cell? ⟨g, k * 4 + 1, none⟩ = some v := by
    rw [cell_block hg]
    exact ⟨_, Array.getElem?_eq_getElem (by omega)⟩
  obtain ⟨v3, c3⟩ := c3
  have f3 : w.frozen? ⟨g, k * 4 + 1, none⟩ = false := frozen_block hg
  have hk' : (k : Int) < C.length := by omega
  have hk5 : k ≤ 10000 := by have := HC.out; omega
  have HG := Lib.hid hG; have HOWN := Lib.hid hown; have HGG := Lib.hid hg
  clear hG hown hg h1 h2 hct
  go_enter_d Try.func34, Try.ntmps34
  go_wp2_with fail
  have HD : Hid (GoAt w.drew B G tv sv a C) := Lib.hid H.out
  go_region_law (go_simp; go_at_call 21; refine (here_any _ B G tv sv a C HD.out).mono ?_; rintro e w' ⟨rfl, rfl⟩)
  all_goals
    go_end0
    have hp := fill_post HG.out HOWN.out HGG.out hk C.length
    exact ⟨rfl, hp.1, hp.2⟩
end Go.Proofs.Ytkpgnopimnamfaa
