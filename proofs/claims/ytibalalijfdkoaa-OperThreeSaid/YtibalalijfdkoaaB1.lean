/- oper.Binary at the pairs of values that the two statements meet. -/
import Derived.Test.YtibalalijfdkoaaB0
import Derived.Deep.DeepCutAuto
import Derived.Deep.DrawnRows
namespace Go.Proofs.Ytibalalijfdkoaa
open Go.ChangeShapes Go.WideShapes Go.ChangeAt Go.RowKit
attribute [local go_sem ↓] Go.wp_at_zero Go.wp_at_succ

theorem Filling.cell {w0 : World} {T : Int × Int → Option Int} {w : World} (h : Filling w0 T w) {a : Addr} {v : Value} (hc : w0.cell? a = some v) : w.cell? a = some v := by
  obtain ⟨L, _, _, hb⟩ := h
  exact (hb.cell (cell_lt hc)).trans hc
theorem Filling.below {w0 : World} {T : Int × Int → Option Int} {w : World} (h : Filling w0.drew T w) : Below w0.heap.size w0 w := by
  obtain ⟨L, _, _, hb⟩ := h
  exact (Below.refl w0.heap.size w0).drew.trans hb
theorem Filling.lookup {w0 : World} {T : Int × Int → Option Int} {w : World} (h : Filling w0 T w) (a b v : Int) (ht : T (a, b) = some v) :
    (Instr.lookup 48 (.map (some w0.heap.size)) (.agg #[.int .u8 a, .int .u8 b]) false).run Try.prog w = .ok (.int .i64 v) w := by
  obtain ⟨L, hm, hl, _⟩ := h
  exact lookup_run a b w _ L v hm ((hl _).trans ht)
theorem checked_new {k1 i1 k2 i2 : Int} {s1 s2 : ByteArray} {re1 im1 re2 im2 : Nat} (n1 : Nice k1 i1 s1 re1 im1) (n2 : Nice k2 i2 s2 re2 im2) (b1 b2 : Nat) (w : World) (h1 : IsN w b1 k1 i1 s1 re1 im1) (h2 : IsN w b2 k2 i2 s2 re2 im2) :
    Calls Try.prog 17 #[.slice (some ⟨w.heap.size, 0, none⟩) 2 2] (w.alloc (.cells #[.slice (some ⟨b1, 0, none⟩) 1 1, .slice (some ⟨b2, 0, none⟩) 1 1] 23)) fun e w' => e = .returned (.int .i64 0) ∧ Below w.heap.size w w' := by
  have h := World.alloc_heap_new w (.cells #[.slice (some ⟨b1, 0, none⟩) 1 1, .slice (some ⟨b2, 0, none⟩) 1 1] 23)
  refine (checked_two n1 n2 _ b1 b2 _ ((cell_block h).trans rfl) ((cell_block h).trans rfl) (h1.alloc _) (h2.alloc _)).mono ?_
  rintro e w' ⟨rfl, hb⟩
  exact ⟨rfl, ((Below.refl _ w).alloc (Nat.le_refl _) _).trans (hb.mono (by simp))⟩

set_option maxRecDepth 100000 in
set_option maxHeartbeats 2000000 in
theorem binary_num (x y : Int) (hx : x.natAbs < 2 ^ 53) (hy : y.natAbs < 2 ^ 53) (b1 b2 : Nat) (w : World) (h1 : IsN w b1 2 x ⟨#[]⟩ 0 0) (h2 : IsN w b2 2 y ⟨#[]⟩ 0 0) :
    Calls Try.prog 9 #[.int .u8 41, .slice (some ⟨b1, 0, none⟩) 1 1, .slice (some ⟨b2, 0, none⟩) 1 1] w (MakesE 4 0 ⟨#[]⟩ (fl x) (fl y) w) := by
  have H1 := Lib.hid h1; have H2 := Lib.hid h2
  clear h1 h2
  have HX := Lib.hid hx; have HY := Lib.hid hy
  clear hx hy
  go_enter Try.func9, Try.ntmps9
  go_wp2_with fail
  refine (checked_new (Nice.int x) (Nice.int y) _ _ _ H1.out H2.out).mono ?_
  rintro e w1 ⟨rfl, hb1⟩
  have H1' := Lib.hid (H1.out.up hb1); have H2' := Lib.hid (H2.out.up hb1)
  obtain ⟨c0, _, _, _, _⟩ := H1'.out.cells
  obtain ⟨d0, _, _, _, _⟩ := H2'.out.cells
  have HB1 := Lib.hid hb1
  clear hb1
  go_wp2_with fail
  go_cut [9] (fun s9 wx => s9 = .int .i64 1 ∧ Below w1.heap.size w1 wx)
  case first =>
    go_region_held3 (fun w' => w'.cell? ⟨b1, 0, none⟩ = some (.int .u8 2) ∧ w'.cell? ⟨b2, 0, none⟩ = some (.int .u8 2)) (go_keep)
      (first | (go_at_call 18; refine (kinds_any _).mono ?_; rintro e w2 ⟨rfl, hf⟩; have e0 := hf.cell c0; have e1 := hf.cell d0; have e2 : (Instr.lookup 48 (.map (some w1.heap.size)) (.agg #[.int .u8 2, .int .u8 2]) false).run Try.prog w2 = .ok (.int .i64 1) w2 := hf.lookup 2 2 1 rfl; have HF := Lib.hid hf; clear hf))
    go_wp2_with fail
    go_meet
    exact ⟨rfl, HF.out.below⟩
  case rest =>
    obtain ⟨rfl, hb⟩ := hcut
    have J1 := Lib.hid (H1'.out.up hb); have J2 := Lib.hid (H2'.out.up hb)
    have HB2 := Lib.hid (HB1.out.trans (hb.mono HB1.out.size))
    clear hb c0 d0 HB1 H1 H2 H1' H2'
    obtain ⟨_, _, c2, _, _⟩ := J1.out.cells
    obtain ⟨_, _, d2, _, _⟩ := J2.out.cells
    go_wp2_with fail
    go_cut [6, 7] (fun s6 s7 wx => s7 = .int .i64 0 ∧ ∃ b, s6 = .slice (some ⟨b, 0, none⟩) 1 1 ∧ IsN wx b 4 0 ⟨#[]⟩ (fl x) (fl y) ∧ wc.heap.size ≤ b ∧ Below wc.heap.size wc wx)
    case first =>
      go_region_held3 (fun w' => w'.cell? ⟨b1, 2, none⟩ = some (.int .i64 x) ∧ w'.cell? ⟨b2, 2, none⟩ = some (.int .i64 y)) (first | go_keep | exact ⟨‹_›, ‹_›⟩)
        (first | (go_at_call 22; refine (of_any _ _ _).mono ?_; rintro e w2 ⟨rfl, rfl⟩) | (go_at_call 21; refine (number_any _ _ (okw_fl x HX.out) (okw_fl y HY.out) _).mono ?_; rintro e w3 ⟨b, rfl, hn, hlt, hb⟩; have e0 := (hb.cell (cell_lt (w := wc.drew) c2)).trans c2; have e1 := (hb.cell (cell_lt (w := wc.drew) d2)).trans d2; have HN := Lib.hid hn; have HLT := Lib.hid hlt; have HB := Lib.hid ((Below.refl wc.heap.size wc).drew.trans hb); clear hn hlt hb))
      go_wp2_with fail
      go_meet
      exact ⟨rfl, _, rfl, HN.out, HLT.out, HB.out⟩
    case rest =>
      obtain ⟨rfl, b, rfl, hn, hlt, hb⟩ := hcut
      have HN := Lib.hid hn; have HLT := Lib.hid hlt
      have HB3 := Lib.hid (HB2.out.trans (hb.mono HB2.out.size))
      clear hn hlt hb c2 d2
      go_wp2_with fail
      go_ret2
      exact ⟨b, rfl, HN.out, Nat.le_trans HB2.out.size HLT.out, HB3.out⟩
end Go.Proofs.Ytibalalijfdkoaa
