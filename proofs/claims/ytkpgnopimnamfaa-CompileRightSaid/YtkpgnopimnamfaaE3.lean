/- goer: what next and all come to. -/
import Derived.Test.YtkpgnopimnamfaaP2
import Derived.Test.YtkpgnopimnamfaaE2
import Derived.Deep.RegionHeld3
namespace Go.Proofs.Ytkpgnopimnamfaa
open Go.ChangeShapes Go.WideShapes Go.ChangeAt Go.RowKit
/-- The slots' cells. -/
def SlotsAt (w : World) (ps : Option Addr) (B : Nat) (Sl : List Int) : Prop := ∀ (k : Nat) (s : Int), Sl[k]? = some s → ∃ A, ps = some A ∧ A.block < B ∧ w.cell? (A.add k) = some (.int .i64 s)
theorem SlotsAt.below {w w' : World} {ps : Option Addr} {B : Nat} {Sl : List Int} (h : SlotsAt w ps B Sl) (hb : Below B w w') : SlotsAt w' ps B Sl := fun k s hk => by
  obtain ⟨A, h1, h2, h3⟩ := h k s hk
  exact ⟨A, h1, h2, cell_up h3 hb (by rw [add_block]; exact h2)⟩
/-- What a goer reads. -/
def Reads (w : World) (B : Nat) (pa : Option Addr) (T : List Tw) (ps : Option Addr) (Sl : List Int) : Prop := TreeAt w pa B T ∧ SlotsAt w ps B Sl
theorem Reads.sv {w w' : World} {B G : Nat} {pa : Option Addr} {T : List Tw} {ps : Option Addr} {Sl : List Int} (h : Reads w B pa T ps Sl) (hs : Sv B G w w') : Reads w' B pa T ps Sl := ⟨h.1.below hs.1, h.2.below hs.1⟩
def NxPost (w : World) (B G : Nat) (tv sv : Value) (a : Nat) (C : List Ins) (e : Ending) (w' : World) : Prop :=
  e = .returned (.tuple #[]) ∧ GoAt w' B G tv sv a C ∧ Sv B G w w'
/-- next goes through a part that begins at a place. -/
def NxAt (B G : Nat) (pa : Option Addr) (cap : Nat) (T : List Tw) (ps : Option Addr) (cs : Nat) (Sl : List Int) (g : Nat × Gen) (a : Nat) : Prop :=
  (∀ b fr, (g.2 b fr).length ≤ 3 * g.1) ∧ ∀ (w : World) (C : List Ins), Reads w B pa T ps Sl → GoAt w B G (.slice pa T.length cap) (.slice ps Sl.length cs) a C → C.length + 3 * g.1 ≤ 10000 →
    Calls Try.prog 13 #[ptr G] w (NxPost w B G (.slice pa T.length cap) (.slice ps Sl.length cs) (a + g.1) (C ++ g.2 a C.length))
def NxAll (B G : Nat) (pa : Option Addr) (cap : Nat) (T : List Tw) (ps : Option Addr) (cs : Nat) (Sl : List Int) : List (Nat × Gen) → Nat → Prop
  | [], _ => True
  | g :: gs, a => NxAt B G pa cap T ps cs Sl g a ∧ NxAll B G pa cap T ps cs Sl gs (a + g.1)
theorem GoAt.setPlace {w : World} {B G : Nat} {tv sv : Value} {a : Nat} {C : List Ins} (h : GoAt w B G tv sv a C) (b : Nat) : GoAt (w.setCell ⟨G, 3, none⟩ (.int .i64 b)) B G tv sv b C := by
  obtain ⟨ao, cap, h1, h2⟩ := h
  exact ⟨ao, cap, by rw [setCell_at h1]; rfl, own_setG h2 h1 (by decide) _ _⟩
theorem fillAt_mid (X : List Ins) (y : Ins) (Z : List Ins) (v : Int) : fillAt (X ++ y :: Z) X.length v = X ++ (y.1, v, y.2.2) :: Z := by
  unfold fillAt
  induction X with
  | nil => simp
  | cons x X ih => simpa using ih
set_option maxHeartbeats 1000000 in
theorem all_any (B G : Nat) (pa : Option Addr) (cap : Nat) (T : List Tw) (ps : Option Addr) (cs : Nat) (Sl : List Int) (gs : List (Nat × Gen)) (hgs : gs.length ≤ 5000) (a : Nat) (hN : NxAll B G pa cap T ps cs Sl gs a) (w : World) (C : List Ins) (hR : Reads w B pa T ps Sl)
    (h : GoAt w B G (.slice pa T.length cap) (.slice ps Sl.length cs) a C) (hC : C.length + 3 * sizes gs ≤ 10000) :
    Calls Try.prog 23 #[ptr G, .int .i64 gs.length] w (NxPost w B G (.slice pa T.length cap) (.slice ps Sl.length cs) (a + sizes gs) (C ++ seqG gs a C.length)) := by
  have H := Lib.hid h; have HN := Lib.hid hN; have HR := Lib.hid hR; have HC := Lib.hid hC; have HGS := Lib.hid hgs
  clear h hN hR hC
  go_enter Try.func23, Try.ntmps23
  go_wp2_with fail
  go_loopg [5] gs.length (fun gk s5 wr => ∃ (i ar : Nat) (Cr : List Ins) (rest : List (Nat × Gen)), s5 = .int .i64 i ∧ GoAt wr B G (.slice pa T.length cap) (.slice ps Sl.length cs) ar Cr ∧ NxAll B G pa cap T ps cs Sl rest ar ∧ Reads wr B pa T ps Sl ∧ Sv B G w wr ∧
    Cr ++ seqG rest ar Cr.length = C ++ seqG gs a C.length ∧ ar + sizes rest = a + sizes gs ∧ i + rest.length = gs.length ∧ Cr.length + 3 * sizes rest ≤ 10000 ∧ gk = rest.length)
  case atStart => exact ⟨0, a, C, gs, by go_num, H.out, HN.out, HR.out, Sv.refl B G w, rfl, rfl, by omega, HC.out, rfl⟩
  case round =>
    obtain ⟨i, ar, Cr, rest, rfl, hg, hn, hr, hs, he, hsz, hil, hb, rfl⟩ := hrel
    have HG := Lib.hid hg; have HN2 := Lib.hid hn; have HR2 := Lib.hid hr; have HS := Lib.hid hs; have HE := Lib.hid he; have HSZ := Lib.hid hsz; have HB := Lib.hid hb
    clear hg hn hr hs he hsz hb
    cases rest with
    | nil =>
      simp only [List.length_nil, Nat.add_zero] at hil
      have hii : ¬ (i : Int) < gs.length := by omega
      have hil' := Lib.hid hil; clear hil
      go_wp2_with fail
      go_end0
      have h1 := HE.out; have h2 := HSZ.out
      simp only [seqG, List.append_nil, sizes, List.map_nil, List.sum_nil, Nat.add_zero] at h1 h2
      refine ⟨rfl, ?_, HS.out⟩
      have h3 := HG.out
      rw [h1, h2] at h3
      exact h3
    | cons g rest =>
      simp only [List.length_cons] at hil
      have hii : (i : Int) < gs.length := by omega
      have hii2 : i < gs.length := by omega
      have hi5 : i ≤ 5000 := by omega
      have hil' := Lib.hid hil; clear hil
      go_wp2_with fail
      have hb := HB.out
      simp only [sizes, List.map_cons, List.sum_cons] at hb
      refine (HN2.out.1.2 wr Cr HR2.out HG.out (by omega)).mono ?_
      clear hb
      rintro e w1 hp
      obtain ⟨rfl, hg1, hs1⟩ := hp
      have HG1 := Lib.hid hg1; have HS1 := Lib.hid hs1; clear hg1 hs1
      go_wp2_with fail
      go_roundg rest.length
      case measure => simp
      case rel =>
        have h1 := HE.out; have h2 := HSZ.out; have h3 := HB.out; have h4 := HN2.out.1.1 ar Cr.length
        simp only [seqG, sizes, List.map_cons, List.sum_cons] at h1 h2 h3
        refine ⟨i + 1, ar + g.1, Cr ++ g.2 ar Cr.length, rest, rfl, HG1.out, HN2.out.2, HR2.out.sv HS1.out, HS.out.trans HS1.out, ?_, ?_, by have := hil'.out; omega, ?_, rfl⟩
        · rw [List.append_assoc, List.length_append]; exact h1
        · simp only [sizes]; omega
        · simp only [List.length_append, sizes]; omega
end Go.Proofs.Ytkpgnopimnamfaa
