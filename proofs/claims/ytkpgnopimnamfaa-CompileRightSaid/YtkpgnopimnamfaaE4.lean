/- goer.next: all the others. -/
import Derived.Test.YtkpgnopimnamfaaP3
namespace Go.Proofs.Ytkpgnopimnamfaa
open Go.ChangeShapes Go.WideShapes Go.ChangeAt Go.RowKit
theorem plain_all (w : World) (B G : Nat) (hB : B ≤ G) (tv sv : Value) (a : Nat) (C : List Ins) (h : GoAt w B G tv sv a C) (hC : C.length ≤ 10000) (op kids num : Int) (text : ByteArray) (slot : Int) :
    Calls Try.prog 24 #[ptr G, .agg #[.int .u8 op, .int .i64 kids, .int .i64 num, .string text], .int .i64 slot] w fun e w' => e = .returned (.tuple #[]) ∧ GoAt w' B G tv sv a (C ++ plainIns (op, kids, num, text) slot) ∧ Sv B G w w' := by
  unfold plainIns
  dsimp only [Tw.op, Tw.kids, Tw.num, Tw.text]
  by_cases h1 : op = 3
  · subst h1
    rw [if_pos rfl, List.append_nil]
    exact plain_3 w B G tv sv a C h hB kids num text slot
  rw [if_neg h1]
  by_cases h2 : op = 4 ∨ op = 5
  · rw [if_pos h2]
    rcases h2 with rfl | rfl
    · exact plain_4 w B G hB tv sv a C h hC kids num text slot
    · exact plain_5 w B G hB tv sv a C h hC kids num text slot
  rw [if_neg h2]
  by_cases h3 : op = 26
  · subst h3
    rw [if_pos rfl]
    exact plain_26 w B G hB tv sv a C h hC kids num text slot
  rw [if_neg h3]
  by_cases h4 : op = 11
  · subst h4
    rw [if_pos rfl]
    exact plain_11 w B G hB tv sv a C h hC kids num text slot
  rw [if_neg h4]
  by_cases h5 : op = 23
  · subst h5
    rw [if_pos rfl]
    exact plain_23 w B G hB tv sv a C h hC kids num text slot
  rw [if_neg h5]
  by_cases h6 : op = 24
  · subst h6
    rw [if_pos rfl]
    exact plain_24 w B G hB tv sv a C h hC kids num text slot
  rw [if_neg h6]
  by_cases h7 : op = 25
  · subst h7
    rw [if_pos rfl]
    exact plain_25 w B G hB tv sv a C h hC kids num text slot
  rw [if_neg h7]
  by_cases h8 : op = 50 ∨ op = 51
  · rw [if_pos h8]
    rcases h8 with rfl | rfl
    · exact plain_50 w B G hB tv sv a C h hC kids num text slot
    · exact plain_51 w B G hB tv sv a C h hC kids num text slot
  rw [if_neg h8]
  by_cases h9 : op = 56
  · subst h9
    rw [if_pos rfl]
    exact plain_56 w B G hB tv sv a C h hC kids num text slot
  rw [if_neg h9]
  exact plain_any_op w B G hB tv sv a C h hC op kids num text slot ⟨h1, by omega, by omega, h3, h4, h5, h6, h7, by omega, by omega, h9⟩
set_option maxRecDepth 100000 in
set_option maxHeartbeats 4000000 in
theorem next_default (w : World) (B G : Nat) (hB : B ≤ G) (pa ps : Option Addr) (cap cs : Nat) (T : List Tw) (Sl : List Int) (hT : T.length ≤ 2048) (hS : Sl.length = T.length) (a : Nat) (C : List Ins) (op : Int) (num : Int) (text : ByteArray) (gs : List (Nat × Gen)) (hx : T[a]? = some (op, (gs.length : Int), num, text))
    (hR : Reads w B pa T ps Sl) (h : GoAt w B G (.slice pa T.length cap) (.slice ps Sl.length cs) a C) (hg5 : gs.length ≤ 5000) (hsh : Short gs) (ha : NxAll B G pa cap T ps cs Sl gs (a + 1)) (hnn : ¬ op = 1 ∧ ¬ op = 6 ∧ ¬ op = 7 ∧ ¬ op = 30 ∧ ¬ op = 31 ∧ ¬ op = 53) (hC : C.length + 3 * (sizes gs) + 3 ≤ 10000) :
    Calls Try.prog 13 #[ptr G] w (NxPost w B G (.slice pa T.length cap) (.slice ps Sl.length cs) (a + 1 + sizes gs) (C ++ (seqG gs (a + 1) C.length ++ plainIns (op, (gs.length : Int), num, text) (Sl.getD a 0)))) := by
  have hlt : a < T.length := (List.getElem?_eq_some_iff.1 hx).1
  obtain ⟨s, hs⟩ : ∃ s, Sl[a]? = some s := ⟨_, List.getElem?_eq_some_iff.2 ⟨by omega, rfl⟩⟩
  obtain ⟨A, rfl, hAB, x0, x1, x2, x3⟩ := hR.1 a _ hx
  obtain ⟨A2, rfl, hAB2, y0⟩ := hR.2 a _ hs
  have H := Lib.hid h
  have hGl := h.lt
  obtain ⟨ao, cp, hG, _⟩ := h
  have g1 : w.cell? ⟨G, 1, none⟩ = some (.slice (some A) T.length cap) := (cell_block hG).trans rfl
  have g2 : w.cell? ⟨G, 2, none⟩ = some (.slice (some A2) Sl.length cs) := (cell_block hG).trans rfl
  have g3 : w.cell? ⟨G, 3, none⟩ = some (.int .i64 a) := (cell_block hG).trans rfl
  have f3 : w.frozen? ⟨G, 3, none⟩ = false := frozen_block hG
  have hlt2 : a < Sl.length := by omega
  have HB := Lib.hid hB; have HT := Lib.hid hT; have HS := Lib.hid hS; have HSL := Lib.hid hs; have HR := Lib.hid hR; have HC := Lib.hid hC
  dsimp only [Tw.op, Tw.kids, Tw.num, Tw.text] at x0 x1 x2 x3
  have l1 : (A.add (a * 4)).block < w.heap.size := by rw [add_block]; omega
  have l2 : (A2.add a).block < w.heap.size := by rw [add_block]; omega
  have ha5 : a ≤ 5000 := by omega
  have HA := Lib.hid ha; have HG5 := Lib.hid hg5; have HSH := Lib.hid hsh; have NN := Lib.hid hnn; clear ha hg5 hsh hnn
  clear hG hS hs hR hC hx hT
  go_enter_defers Try.func13, Try.ntmps13
  go_wp2_with fail
  go_region_held3 (fun w' => w'.cell? ⟨G, 1, none⟩ = some (.slice (some A) T.length cap) ∧ w'.cell? ⟨G, 2, none⟩ = some (.slice (some A2) Sl.length cs) ∧ w'.cell? ⟨G, 3, none⟩ = some (.int .i64 a) ∧
    w'.cell? (A.add (a * 4)) = some (.int .u8 op) ∧ w'.cell? ⟨(A.add (a * 4)).block, (A.add (a * 4)).off + 1, none⟩ = some (.int .i64 (gs.length : Int)) ∧ w'.cell? ⟨(A.add (a * 4)).block, (A.add (a * 4)).off + 2, none⟩ = some (.int .i64 num) ∧ w'.cell? ⟨(A.add (a * 4)).block, (A.add (a * 4)).off + 3, none⟩ = some (.string text) ∧
    w'.cell? (A2.add a) = some (.int .i64 s)) (go_keep) (first | fail)
  rename_i hHeld
  clear hHeld
  go_upto_region 2 with fail
  have ea : ((a : Int) + 1) = ((a + 1 : Nat) : Int) := by omega
  rw [ea]
  have N1 : Hid (GoAt (((w.setCell ⟨G, 3, none⟩ (.int .i64 ((a + 1 : Nat) : Int))).alloc (.cells #[.int .u8 op, .int .i64 (gs.length : Int), .int .i64 num, .string text] 31)).drew) B G (.slice (some A) T.length cap) (.slice (some A2) Sl.length cs) (a + 1) C) := Lib.hid ((H.out.setPlace (a + 1)).alloc (.cells #[.int .u8 op, .int .i64 (gs.length : Int), .int .i64 num, .string text] 31))
  have N2 : Hid (Sv B G w (((w.setCell ⟨G, 3, none⟩ (.int .i64 ((a + 1 : Nat) : Int))).alloc (.cells #[.int .u8 op, .int .i64 (gs.length : Int), .int .i64 num, .string text] 31)).drew)) := Lib.hid (((Sv.refl B G w).setG HB.out 3 (.int .i64 ((a + 1 : Nat) : Int))).alloc (by have := HB.out; omega) (.cells #[.int .u8 op, .int .i64 (gs.length : Int), .int .i64 num, .string text] 31)).drew
  have N3 : Hid ((((w.setCell ⟨G, 3, none⟩ (.int .i64 ((a + 1 : Nat) : Int))).alloc (.cells #[.int .u8 op, .int .i64 (gs.length : Int), .int .i64 num, .string text] 31)).drew).heap[w.heap.size]? = some (.cells #[.int .u8 op, .int .i64 (gs.length : Int), .int .i64 num, .string text] 31 (0, 0))) := Lib.hid (by
    have hs : (w.setCell ⟨G, 3, none⟩ (.int .i64 ((a + 1 : Nat) : Int))).heap.size = w.heap.size := by simp [World.setCell]
    have := (MapKept.heap_alloc (w.setCell ⟨G, 3, none⟩ (.int .i64 ((a + 1 : Nat) : Int))) (.cells #[.int .u8 op, .int .i64 (gs.length : Int), .int .i64 num, .string text] 31)).1
    rwa [hs] at this)
  obtain ⟨W, hW⟩ : ∃ W, ((w.setCell ⟨G, 3, none⟩ (.int .i64 ((a + 1 : Nat) : Int))).alloc (.cells #[.int .u8 op, .int .i64 (gs.length : Int), .int .i64 num, .string text] 31)).drew = W := ⟨_, rfl⟩
  rw [hW] at N1 N2 N3 ⊢
  clear hW ea g1 g2 g3 f3 x0 x1 x2 x3 y0 l1 l2
  have HGL := Lib.hid hGl; clear hGl
  have R0 := Lib.hid (HR.out.sv N2.out)
  have k0 : W.cell? ⟨w.heap.size, 0, none⟩ = some (.int .u8 op) := (cell_block N3.out).trans rfl
  have G0 := Lib.hid N1.out; have V0 := Lib.hid N2.out; have M0 := Lib.hid N3.out
  clear N1 N2 N3
  obtain ⟨n1, n2, n3, n4, n5, n6⟩ := NN.out
  have k1 : W.cell? ⟨w.heap.size, 1, none⟩ = some (.int .i64 gs.length) := (cell_block M0.out).trans rfl
  go_wp2_with fail
  refine (all_any B G _ cap T _ cs Sl gs HG5.out (a + 1) HA.out W C R0.out G0.out (by have := HC.out; omega)).mono ?_
  rintro e w1 hp
  obtain ⟨rfl, hg, hs⟩ := hp
  have hl := seqG_len gs (a + 1) C.length HSH.out
  have G1 := Lib.hid hg
  have V1 := Lib.hid (V0.out.trans hs)
  have M1 := Lib.hid (hs.2 _ _ _ _ M0.out (by have := HGL.out; omega) (by decide))
  clear hg hs k1
  have k0' : w1.cell? ⟨w.heap.size, 0, none⟩ = some (.int .u8 op) := (cell_block M1.out).trans rfl
  have k1' : w1.cell? ⟨w.heap.size, 1, none⟩ = some (.int .i64 gs.length) := (cell_block M1.out).trans rfl
  have k2' : w1.cell? ⟨w.heap.size, 2, none⟩ = some (.int .i64 num) := (cell_block M1.out).trans rfl
  have k3' : w1.cell? ⟨w.heap.size, 3, none⟩ = some (.string text) := (cell_block M1.out).trans rfl
  go_wp2_with fail
  refine (plain_all w1 B G HB.out _ _ _ _ G1.out (by have := HC.out; rw [List.length_append]; omega) op gs.length num text s).mono ?_
  rintro e w2 ⟨rfl, hg, hs⟩
  have V2 := Lib.hid (V1.out.trans hs)
  have G2 := Lib.hid hg
  clear hg hs k0' k1' k2' k3'
  go_wp2_with fail
  have hg := G2.out
  have hs2 : Sl.getD a 0 = s := by rw [List.getD_eq_getElem?_getD, HSL.out]; rfl
  rw [hs2]
  rw [List.append_assoc] at hg
  exact ⟨_, results_none rfl _ _ _, rfl, hg, V2.out⟩
end Go.Proofs.Ytkpgnopimnamfaa
