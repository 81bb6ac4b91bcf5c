/- goer.next: or and and. -/
import Derived.Test.YtkpgnopimnamfaaP3
namespace Go.Proofs.Ytkpgnopimnamfaa
open Go.ChangeShapes Go.WideShapes Go.ChangeAt Go.RowKit
set_option maxRecDepth 100000 in
set_option maxHeartbeats 4000000 in
theorem next_or (w : World) (B G : Nat) (hB : B ≤ G) (pa ps : Option Addr) (cap cs : Nat) (T : List Tw) (Sl : List Int) (hT : T.length ≤ 2048) (hS : Sl.length = T.length) (a : Nat) (C : List Ins) (kids num : Int) (text : ByteArray) (hx : T[a]? = some (30, kids, num, text))
    (hR : Reads w B pa T ps Sl) (h : GoAt w B G (.slice pa T.length cap) (.slice ps Sl.length cs) a C) (c b : Nat × Gen) (hc : NxAt B G pa cap T ps cs Sl c (a + 1)) (hb : NxAt B G pa cap T ps cs Sl b (a + 1 + c.1)) (hC : C.length + 3 * ((c.1 + b.1)) + 3 ≤ 10000) :
    Calls Try.prog 13 #[ptr G] w (NxPost w B G (.slice pa T.length cap) (.slice ps Sl.length cs) (a + 1 + (c.1 + b.1)) (C ++ boolG 3 c b a C.length)) := by
  have hlt : a < T.length := (List.getElem?_eq_some_iff.1 hx).1
  obtain ⟨s, hs⟩ : ∃ s, Sl[a]? = some s := ⟨_, List.getElem?_eq_some_iff.2 ⟨by omega, rfl⟩⟩
  obtain ⟨A, rfl, hAB, x0, x1, x2, x3⟩ := hR.1 a _ hx
  obtain ⟨A2, rfl, hAB2, y0⟩ := hR.2 a _ hs
  have H := Lib.hid h
  have hGl := h.lt
  obtain ⟨ao, cp, hG, _⟩ := h
  have g1 : w.cell? ⟨G, 1, none⟩ = some (.slice (some A) T.length cap) := (cell_block hG).trans rfl
  have g2 : w.cell? ⟨G, 2, none⟩ = some (.slice (some A2) Sl.length cs) := (cell_block hG).trans rfl
  have g3 : w.cell? ⟨G, 3, none⟩ = some (.int .i64 a) := (cell_block hG).trans rfl
  have f3 : w.frozen? ⟨G, 3, none⟩ = false := frozen_block hG
  have hlt2 : a < Sl.length := by omega
  have HB := Lib.hid hB; have HT := Lib.hid hT; have HS := Lib.hid hS; have HSL := Lib.hid hs; have HR := Lib.hid hR; have HC := Lib.hid hC
  dsimp only [Tw.op, Tw.kids, Tw.num, Tw.text] at x0 x1 x2 x3
  have l1 : (A.add (a * 4)).block < w.heap.size := by rw [add_block]; omega
  have l2 : (A2.add a).block < w.heap.size := by rw [add_block]; omega
  have ha5 : a ≤ 5000 := by omega
  have Hc := Lib.hid hc; have Hb := Lib.hid hb; clear hc hb
  clear hG hS hs hR hC hx hT
  go_enter_defers Try.func13, Try.ntmps13
  go_wp2_with fail
  go_region_held3 (fun w' => w'.cell? ⟨G, 1, none⟩ = some (.slice (some A) T.length cap) ∧ w'.cell? ⟨G, 2, none⟩ = some (.slice (some A2) Sl.length cs) ∧ w'.cell? ⟨G, 3, none⟩ = some (.int .i64 a) ∧
    w'.cell? (A.add (a * 4)) = some (.int .u8 30) ∧ w'.cell? ⟨(A.add (a * 4)).block, (A.add (a * 4)).off + 1, none⟩ = some (.int .i64 kids) ∧ w'.cell? ⟨(A.add (a * 4)).block, (A.add (a * 4)).off + 2, none⟩ = some (.int .i64 num) ∧ w'.cell? ⟨(A.add (a * 4)).block, (A.add (a * 4)).off + 3, none⟩ = some (.string text) ∧
    w'.cell? (A2.add a) = some (.int .i64 s)) (go_keep) (first | fail)
  rename_i hHeld
  clear hHeld
  go_upto_region 2 with fail
  have ea : ((a : Int) + 1) = ((a + 1 : Nat) : Int) := by omega
  rw [ea]
  have N1 : Hid (GoAt (((w.setCell ⟨G, 3, none⟩ (.int .i64 ((a + 1 : Nat) : Int))).alloc (.cells #[.int .u8 30, .int .i64 kids, .int .i64 num, .string text] 31)).drew) B G (.slice (some A) T.length cap) (.slice (some A2) Sl.length cs) (a + 1) C) := Lib.hid ((H.out.setPlace (a + 1)).alloc (.cells #[.int .u8 30, .int .i64 kids, .int .i64 num, .string text] 31))
  have N2 : Hid (Sv B G w (((w.setCell ⟨G, 3, none⟩ (.int .i64 ((a + 1 : Nat) : Int))).alloc (.cells #[.int .u8 30, .int .i64 kids, .int .i64 num, .string text] 31)).drew)) := Lib.hid (((Sv.refl B G w).setG HB.out 3 (.int .i64 ((a + 1 : Nat) : Int))).alloc (by have := HB.out; omega) (.cells #[.int .u8 30, .int .i64 kids, .int .i64 num, .string text] 31)).drew
  have N3 : Hid ((((w.setCell ⟨G, 3, none⟩ (.int .i64 ((a + 1 : Nat) : Int))).alloc (.cells #[.int .u8 30, .int .i64 kids, .int .i64 num, .string text] 31)).drew).heap[w.heap.size]? = some (.cells #[.int .u8 30, .int .i64 kids, .int .i64 num, .string text] 31 (0, 0))) := Lib.hid (by
    have hs : (w.setCell ⟨G, 3, none⟩ (.int .i64 ((a + 1 : Nat) : Int))).heap.size = w.heap.size := by simp [World.setCell]
    have := (MapKept.heap_alloc (w.setCell ⟨G, 3, none⟩ (.int .i64 ((a + 1 : Nat) : Int))) (.cells #[.int .u8 30, .int .i64 kids, .int .i64 num, .string text] 31)).1
    rwa [hs] at this)
  obtain ⟨W, hW⟩ : ∃ W, ((w.setCell ⟨G, 3, none⟩ (.int .i64 ((a + 1 : Nat) : Int))).alloc (.cells #[.int .u8 30, .int .i64 kids, .int .i64 num, .string text] 31)).drew = W := ⟨_, rfl⟩
  rw [hW] at N1 N2 N3 ⊢
  clear hW ea g1 g2 g3 f3 x0 x1 x2 x3 y0 l1 l2
  have HGL := Lib.hid hGl; clear hGl
  have R0 := Lib.hid (HR.out.sv N2.out)
  have k0 : W.cell? ⟨w.heap.size, 0, none⟩ = some (.int .u8 30) := (cell_block N3.out).trans rfl
  have G0 := Lib.hid N1.out; have V0 := Lib.hid N2.out; have M0 := Lib.hid N3.out
  clear N1 N2 N3
  go_wp2_with fail
  refine (Hc.out.2 _ _ R0.out G0.out (by have := HC.out; first | omega | (simp <;> omega))).mono ?_
  rintro e w1 hp
  obtain ⟨rfl, hg, hs⟩ := hp
  have hl := Hc.out.1 (a + 1) C.length
  obtain ⟨c1, hq⟩ : ∃ l, c.2 (a + 1) C.length = l := ⟨_, rfl⟩
  rw [hq] at hg hl
  have Ec := Lib.hid hq; have Lc := hl
  have G1 := Lib.hid hg
  have V1 := Lib.hid (V0.out.trans hs)
  have R1 := Lib.hid (R0.out.sv hs)
  have M1 := Lib.hid (hs.2 _ _ _ _ M0.out (by have := HGL.out; omega) (by decide))
  have D1 := Lib.hid hs
  clear hg hs hq hl
  have kx1 : w1.cell? ⟨w.heap.size, 0, none⟩ = some (.int .u8 30) := (cell_block M1.out).trans rfl
  go_wp2_with fail
  refine (hole_any _ B G HB.out _ _ _ _ G1.out (by have := HC.out; first | omega | (simp <;> omega)) 3).mono ?_
  rintro e w2 hp
  obtain ⟨x1, x2, rfl, hb1, hb2, hy1, hy2, hg, hs⟩ := hp
  have xn : x1 ≠ G ∧ x2 ≠ G := by have h1 := HGL.out; have h2 := V1.out.size; omega
  have xN := Lib.hid xn
  have xP2 := Lib.hid hy1; have xQ2 := Lib.hid hy2
  have G2 := Lib.hid hg
  have V2 := Lib.hid (V1.out.trans hs)
  have R2 := Lib.hid (R1.out.sv hs)
  have M2 := Lib.hid (hs.2 _ _ _ _ M1.out (by have := HGL.out; omega) (by decide))
  have D2 := Lib.hid hs
  clear hg hs hy1 hy2 hb1 hb2 xn
  clear kx1
  go_wp2_with fail
  refine (Hb.out.2 _ _ R2.out G2.out (by have := HC.out; first | omega | (simp <;> omega))).mono ?_
  rintro e w3 hp
  obtain ⟨rfl, hg, hs⟩ := hp
  have hl := Hb.out.1 (a + 1 + c.1) (C ++ c1 ++ [(3, 0, 0, noT)]).length
  obtain ⟨b1, hq⟩ : ∃ l, b.2 (a + 1 + c.1) (C ++ c1 ++ [(3, 0, 0, noT)]).length = l := ⟨_, rfl⟩
  rw [hq] at hg hl
  have Eb := Lib.hid hq; have Lb := hl
  have G3 := Lib.hid hg
  have V3 := Lib.hid (V2.out.trans hs)
  have R3 := Lib.hid (R2.out.sv hs)
  have M3 := Lib.hid (hs.2 _ _ _ _ M2.out (by have := HGL.out; omega) (by decide))
  have D3 := Lib.hid hs
  clear hg hs hq hl
  have xP3 := Lib.hid (D3.out.box xP2.out xN.out.1 (by decide))
  have xQ3 := Lib.hid (D3.out.box xQ2.out xN.out.2 (by decide))
  go_wp2_with fail
  refine (op_any _ B G HB.out _ _ _ _ G3.out (by have := HC.out; first | omega | (simp <;> omega)) 5).mono ?_
  rintro e w4 ⟨rfl, hg, hs⟩
  have G4 := Lib.hid hg
  have V4 := Lib.hid (V3.out.trans hs)
  have R4 := Lib.hid (R3.out.sv hs)
  have M4 := Lib.hid (hs.2 _ _ _ _ M3.out (by have := HGL.out; omega) (by decide))
  have D4 := Lib.hid hs
  clear hg hs
  have xP4 := Lib.hid (D4.out.box xP3.out xN.out.1 (by decide))
  have xQ4 := Lib.hid (D4.out.box xQ3.out xN.out.2 (by decide))
  go_wp2_with fail
  refine leaves_cons (f := 34) (args := #[ptr x1, ptr x2]) (by simp) (by simp [go_sem]) ?_
  refine (fill_deferred _ B G _ _ _ _ G4.out (by have := HC.out; first | omega | (simp <;> omega)) x1 x2 _ xP4.out xQ4.out (by have := HC.out; first | omega | (simp <;> omega)) .returning).mono ?_
  rintro e u' w5 ⟨rfl, rfl, hg, hs⟩
  have V5 := V4.out.trans hs
  rw [bool_eq 3 Ec.out Eb.out] at hg
  exact ⟨_, results_none rfl _ _ _, rfl, by rw [← Nat.add_assoc]; exact hg, V5⟩
set_option maxRecDepth 100000 in
set_option maxHeartbeats 4000000 in
theorem next_and (w : World) (B G : Nat) (hB : B ≤ G) (pa ps : Option Addr) (cap cs : Nat) (T : List Tw) (Sl : List Int) (hT : T.length ≤ 2048) (hS : Sl.length = T.length) (a : Nat) (C : List Ins) (kids num : Int) (text : ByteArray) (hx : T[a]? = some (31, kids, num, text))
    (hR : Reads w B pa T ps Sl) (h : GoAt w B G (.slice pa T.length cap) (.slice ps Sl.length cs) a C) (c b : Nat × Gen) (hc : NxAt B G pa cap T ps cs Sl c (a + 1)) (hb : NxAt B G pa cap T ps cs Sl b (a + 1 + c.1)) (hC : C.length + 3 * ((c.1 + b.1)) + 3 ≤ 10000) :
    Calls Try.prog 13 #[ptr G] w (NxPost w B G (.slice pa T.length cap) (.slice ps Sl.length cs) (a + 1 + (c.1 + b.1)) (C ++ boolG 4 c b a C.length)) := by
  have hlt : a < T.length := (List.getElem?_eq_some_iff.1 hx).1
  obtain ⟨s, hs⟩ : ∃ s, Sl[a]? = some s := ⟨_, List.getElem?_eq_some_iff.2 ⟨by omega, rfl⟩⟩
  obtain ⟨A, rfl, hAB, x0, x1, x2, x3⟩ := hR.1 a _ hx
  obtain ⟨A2, rfl, hAB2, y0⟩ := hR.2 a _ hs
  have H := Lib.hid h
  have hGl := h.lt
  obtain ⟨ao, cp, hG, _⟩ := h
  have g1 : w.cell? ⟨G, 1, none⟩ = some (.slice (some A) T.length cap) := (cell_block hG).trans rfl
  have g2 : w.cell? ⟨G, 2, none⟩ = some (.slice (some A2) Sl.length cs) := (cell_block hG).trans rfl
  have g3 : w.cell? ⟨G, 3, none⟩ = some (.int .i64 a) := (cell_block hG).trans rfl
  have f3 : w.frozen? ⟨G, 3, none⟩ = false := frozen_block hG
  have hlt2 : a < Sl.length := by omega
  have HB := Lib.hid hB; have HT := Lib.hid hT; have HS := Lib.hid hS; have HSL := Lib.hid hs; have HR := Lib.hid hR; have HC := Lib.hid hC
  dsimp only [Tw.op, Tw.kids, Tw.num, Tw.text] at x0 x1 x2 x3
  have l1 : (A.add (a * 4)).block < w.heap.size := by rw [add_block]; omega
  have l2 : (A2.add a).block < w.heap.size := by rw [add_block]; omega
  have ha5 : a ≤ 5000 := by omega
  have Hc := Lib.hid hc; have Hb := Lib.hid hb; clear hc hb
  clear hG hS hs hR hC hx hT
  go_enter_defers Try.func13, Try.ntmps13
  go_wp2_with fail
  go_region_held3 (fun w' => w'.cell? ⟨G, 1, none⟩ = some (.slice (some A) T.length cap) ∧ w'.cell? ⟨G, 2, none⟩ = some (.slice (some A2) Sl.length cs) ∧ w'.cell? ⟨G, 3, none⟩ = some (.int .i64 a) ∧
    w'.cell? (A.add (a * 4)) = some (.int .u8 31) ∧ w'.cell? ⟨(A.add (a * 4)).block, (A.add (a * 4)).off + 1, none⟩ = some (.int .i64 kids) ∧ w'.cell? ⟨(A.add (a * 4)).block, (A.add (a * 4)).off + 2, none⟩ = some (.int .i64 num) ∧ w'.cell? ⟨(A.add (a * 4)).block, (A.add (a * 4)).off + 3, none⟩ = some (.string text) ∧
    w'.cell? (A2.add a) = some (.int .i64 s)) (go_keep) (first | fail)
  rename_i hHeld
  clear hHeld
  go_upto_region 2 with fail
  have ea : ((a : Int) + 1) = ((a + 1 : Nat) : Int) := by omega
  rw [ea]
  have N1 : Hid (GoAt (((w.setCell ⟨G, 3, none⟩ (.int .i64 ((a + 1 : Nat) : Int))).alloc (.cells #[.int .u8 31, .int .i64 kids, .int .i64 num, .string text] 31)).drew) B G (.slice (some A) T.length cap) (.slice (some A2) Sl.length cs) (a + 1) C) := Lib.hid ((H.out.setPlace (a + 1)).alloc (.cells #[.int .u8 31, .int .i64 kids, .int .i64 num, .string text] 31))
  have N2 : Hid (Sv B G w (((w.setCell ⟨G, 3, none⟩ (.int .i64 ((a + 1 : Nat) : Int))).alloc (.cells #[.int .u8 31, .int .i64 kids, .int .i64 num, .string text] 31)).drew)) := Lib.hid (((Sv.refl B G w).setG HB.out 3 (.int .i64 ((a + 1 : Nat) : Int))).alloc (by have := HB.out; omega) (.cells #[.int .u8 31, .int .i64 kids, .int .i64 num, .string text] 31)).drew
  have N3 : Hid ((((w.setCell ⟨G, 3, none⟩ (.int .i64 ((a + 1 : Nat) : Int))).alloc (.cells #[.int .u8 31, .int .i64 kids, .int .i64 num, .string text] 31)).drew).heap[w.heap.size]? = some (.cells #[.int .u8 31, .int .i64 kids, .int .i64 num, .string text] 31 (0, 0))) := Lib.hid (by
    have hs : (w.setCell ⟨G, 3, none⟩ (.int .i64 ((a + 1 : Nat) : Int))).heap.size = w.heap.size := by simp [World.setCell]
    have := (MapKept.heap_alloc (w.setCell ⟨G, 3, none⟩ (.int .i64 ((a + 1 : Nat) : Int))) (.cells #[.int .u8 31, .int .i64 kids, .int .i64 num, .string text] 31)).1
    rwa [hs] at this)
  obtain ⟨W, hW⟩ : ∃ W, ((w.setCell ⟨G, 3, none⟩ (.int .i64 ((a + 1 : Nat) : Int))).alloc (.cells #[.int .u8 31, .int .i64 kids, .int .i64 num, .string text] 31)).drew = W := ⟨_, rfl⟩
  rw [hW] at N1 N2 N3 ⊢
  clear hW ea g1 g2 g3 f3 x0 x1 x2 x3 y0 l1 l2
  have HGL := Lib.hid hGl; clear hGl
  have R0 := Lib.hid (HR.out.sv N2.out)
  have k0 : W.cell? ⟨w.heap.size, 0, none⟩ = some (.int .u8 31) := (cell_block N3.out).trans rfl
  have G0 := Lib.hid N1.out; have V0 := Lib.hid N2.out; have M0 := Lib.hid N3.out
  clear N1 N2 N3
  go_wp2_with fail
  refine (Hc.out.2 _ _ R0.out G0.out (by have := HC.out; first | omega | (simp <;> omega))).mono ?_
  rintro e w1 hp
  obtain ⟨rfl, hg, hs⟩ := hp
  have hl := Hc.out.1 (a + 1) C.length
  obtain ⟨c1, hq⟩ : ∃ l, c.2 (a + 1) C.length = l := ⟨_, rfl⟩
  rw [hq] at hg hl
  have Ec := Lib.hid hq; have Lc := hl
  have G1 := Lib.hid hg
  have V1 := Lib.hid (V0.out.trans hs)
  have R1 := Lib.hid (R0.out.sv hs)
  have M1 := Lib.hid (hs.2 _ _ _ _ M0.out (by have := HGL.out; omega) (by decide))
  have D1 := Lib.hid hs
  clear hg hs hq hl
  have kx1 : w1.cell? ⟨w.heap.size, 0, none⟩ = some (.int .u8 31) := (cell_block M1.out).trans rfl
  go_wp2_with fail
  refine (hole_any _ B G HB.out _ _ _ _ G1.out (by have := HC.out; first | omega | (simp <;> omega)) 4).mono ?_
  rintro e w2 hp
  obtain ⟨x1, x2, rfl, hb1, hb2, hy1, hy2, hg, hs⟩ := hp
  have xn : x1 ≠ G ∧ x2 ≠ G := by have h1 := HGL.out; have h2 := V1.out.size; omega
  have xN := Lib.hid xn
  have xP2 := Lib.hid hy1; have xQ2 := Lib.hid hy2
  have G2 := Lib.hid hg
  have V2 := Lib.hid (V1.out.trans hs)
  have R2 := Lib.hid (R1.out.sv hs)
  have M2 := Lib.hid (hs.2 _ _ _ _ M1.out (by have := HGL.out; omega) (by decide))
  have D2 := Lib.hid hs
  clear hg hs hy1 hy2 hb1 hb2 xn
  clear kx1
  go_wp2_with fail
  refine (Hb.out.2 _ _ R2.out G2.out (by have := HC.out; first | omega | (simp <;> omega))).mono ?_
  rintro e w3 hp
  obtain ⟨rfl, hg, hs⟩ := hp
  have hl := Hb.out.1 (a + 1 + c.1) (C ++ c1 ++ [(4, 0, 0, noT)]).length
  obtain ⟨b1, hq⟩ : ∃ l, b.2 (a + 1 + c.1) (C ++ c1 ++ [(4, 0, 0, noT)]).length = l := ⟨_, rfl⟩
  rw [hq] at hg hl
  have Eb := Lib.hid hq; have Lb := hl
  have G3 := Lib.hid hg
  have V3 := Lib.hid (V2.out.trans hs)
  have R3 := Lib.hid (R2.out.sv hs)
  have M3 := Lib.hid (hs.2 _ _ _ _ M2.out (by have := HGL.out; omega) (by decide))
  have D3 := Lib.hid hs
  clear hg hs hq hl
  have xP3 := Lib.hid (D3.out.box xP2.out xN.out.1 (by decide))
  have xQ3 := Lib.hid (D3.out.box xQ2.out xN.out.2 (by decide))
  go_wp2_with fail
  refine (op_any _ B G HB.out _ _ _ _ G3.out (by have := HC.out; first | omega | (simp <;> omega)) 5).mono ?_
  rintro e w4 ⟨rfl, hg, hs⟩
  have G4 := Lib.hid hg
  have V4 := Lib.hid (V3.out.trans hs)
  have R4 := Lib.hid (R3.out.sv hs)
  have M4 := Lib.hid (hs.2 _ _ _ _ M3.out (by have := HGL.out; omega) (by decide))
  have D4 := Lib.hid hs
  clear hg hs
  have xP4 := Lib.hid (D4.out.box xP3.out xN.out.1 (by decide))
  have xQ4 := Lib.hid (D4.out.box xQ3.out xN.out.2 (by decide))
  go_wp2_with fail
  refine leaves_cons (f := 34) (args := #[ptr x1, ptr x2]) (by simp) (by simp [go_sem]) ?_
  refine (fill_deferred _ B G _ _ _ _ G4.out (by have := HC.out; first | omega | (simp <;> omega)) x1 x2 _ xP4.out xQ4.out (by have := HC.out; first | omega | (simp <;> omega)) .returning).mono ?_
  rintro e u' w5 ⟨rfl, rfl, hg, hs⟩
  have V5 := V4.out.trans hs
  rw [bool_eq 4 Ec.out Eb.out] at hg
  exact ⟨_, results_none rfl _ _ _, rfl, by rw [← Nat.add_assoc]; exact hg, V5⟩
end Go.Proofs.Ytkpgnopimnamfaa
