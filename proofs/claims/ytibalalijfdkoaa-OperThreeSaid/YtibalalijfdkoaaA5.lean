/- Comparing two values of one node: value.against. -/
import Derived.Test.YtibalalijfdkoaaA4
import Derived.RegionTactic
import Derived.Deep.DeepCutAuto
import Derived.Deep.DrawnRows
import Derived.StillTailTactics
namespace Go.Proofs.Ytibalalijfdkoaa
open Go.ChangeShapes Go.WideShapes Go.ChangeAt Go.RowKit
attribute [local go_sem ↓] Go.wp_at_zero Go.wp_at_succ

def Two (k i1 i2 : Int) (s1 s2 : ByteArray) (w : World) (s6 s7 : Value) (wx : World) : Prop :=
  ∃ g h, s6 = .pointer (some ⟨g, 0, none⟩) ∧ s7 = .pointer (some ⟨h, 0, none⟩) ∧ IsN wx g k i1 s1 0 0 ∧ IsN wx h k i2 s2 0 0 ∧ Below w.heap.size w wx

theorem qs {P : Program} {f : FuncId} {args : Array Value} {w : World} {v : Value} (h : Calls P f args w fun e w' => e = .returned v ∧ w = w') : Calls P f args w fun e w' => e = .returned v ∧ w' = w :=
  h.mono fun _ _ ⟨a, b⟩ => ⟨a, b.symm⟩
theorem cmpI_same (a : Int) : cmpI a a = 0 := by unfold cmpI; rw [if_neg (by omega), if_neg (by omega)]
theorem compare8_same (a : Int) (w : World) : Calls Try.prog 64 #[.int .u8 a, .int .u8 a] w fun e w' => e = .returned (.int .i64 0) ∧ w = w' := by
  have := compare8 a a w; rwa [cmpI_same] at this
theorem compareI_same (a : Int) (w : World) : Calls Try.prog 65 #[.int .i64 a, .int .i64 a] w fun e w' => e = .returned (.int .i64 0) ∧ w = w' := by
  have := compareI a a w; rwa [cmpI_same] at this
theorem cell_block {w : World} {b o : Nat} {c : Array Value} {t : TypeId} {fz : Nat × Nat} (h : w.heap[b]? = some (.cells c t fz)) : w.cell? ⟨b, o, none⟩ = c[o]? := by simp [World.cell?, h]
def sixes (w : World) (i s : Int) : World := (w.alloc (.cells #[.int .i64 0, .int .i64 0, .int .i64 i, .int .i64 s, .int .i64 0, .int .i64 0] 3)).drew
theorem or_new (w : World) (i s : Int) : Calls Try.prog 63 #[.slice (some ⟨w.heap.size, 0, none⟩) 6 6] (w.alloc (.cells #[.int .i64 0, .int .i64 0, .int .i64 i, .int .i64 s, .int .i64 0, .int .i64 0] 3)).drew
    fun e w' => e = .returned (.int .i64 (orOf i s)) ∧ sixes w i s = w' := by
  have h := World.alloc_heap_new w (.cells #[.int .i64 0, .int .i64 0, .int .i64 i, .int .i64 s, .int .i64 0, .int .i64 0] 3)
  exact or_any _ _ _ (sixes w i s) ((cell_block h).trans rfl) ((cell_block h).trans rfl) ((cell_block h).trans rfl) ((cell_block h).trans rfl) ((cell_block h).trans rfl) ((cell_block h).trans rfl)
theorem sixes_below (w : World) (i s : Int) : Below w.heap.size w (sixes w i s) := ((Below.refl _ w).alloc (Nat.le_refl _) _).drew
theorem cell_lt {w : World} {a : Addr} {v : Value} (h : w.cell? a = some v) : a.block < w.heap.size := by
  unfold World.cell? at h
  split at h
  · rename_i c e f hh; exact (Array.getElem?_eq_some_iff.1 hh).1
  · cases h
theorem sixes_cell {w : World} {a : Addr} {v : Value} (i s : Int) (h : w.cell? a = some v) : (sixes w i s).cell? a = some v := ((sixes_below w i s).cell (cell_lt h)).trans h
theorem IsN.drew {w : World} {b : Nat} {k i : Int} {s : ByteArray} {re im : Nat} (h : IsN w b k i s re im) : IsN w.drew b k i s re im := h
theorem IsN.alloc {w : World} {b : Nat} {k i : Int} {s : ByteArray} {re im : Nat} (h : IsN w b k i s re im) (o : Obj) : IsN (w.alloc o) b k i s re im := h.below ((Below.refl w.heap.size w).alloc (Nat.le_refl _) o) h.lt

set_option maxRecDepth 100000 in
set_option maxHeartbeats 1000000 in
theorem against_any (b1 b2 : Nat) (k i1 i2 : Int) (s1 s2 : ByteArray) (w : World) (h1 : IsN w b1 k i1 s1 0 0) (h2 : IsN w b2 k i2 s2 0 0) :
    Calls Try.prog 45 #[.slice (some ⟨b1, 0, none⟩) 1 1, .slice (some ⟨b2, 0, none⟩) 1 1] w fun e w' => e = .returned (.int .i64 (orOf (cmpI i1 i2) (cmpS s1 s2))) ∧ Below w.heap.size w w' := by
  obtain ⟨c0, c1, c2, c3, c4⟩ := h1.cells
  obtain ⟨d0, d1, d2, d3, d4⟩ := h2.cells
  have l1 := h1.lt
  have l2 := h2.lt
  clear h1 h2
  go_enter Try.func45, Try.ntmps45
  go_wp2
  refine wp_loop_rounds 2 ?_
  rw [rounds_succ]
  go_upto_region 4 with fail
  go_cut [6, 7] (fun s6 s7 wx => Two k i1 i2 s1 s2 w s6 s7 wx)
  case first =>
    go_region
    all_goals go_wp2_with fail
    all_goals go_meet
    · exact ⟨_, _, rfl, rfl, ((IsN.new _ _ _ _ _ _).alloc _).drew, (IsN.new' _ _ _ _ _ (by simp)).drew, by go_grown⟩
    · exact ⟨_, _, rfl, rfl, (IsN.new' _ _ _ _ _ (by simp)).drew, ((IsN.new _ _ _ _ _ _).alloc _).drew, by go_grown⟩
  case rest =>
    obtain ⟨g, h, rfl, rfl, hg, hh, hb⟩ := hcut
    obtain ⟨c0, c1, c2, c3, c4⟩ := hg.cells
    obtain ⟨d0, d1, d2, d3, d4⟩ := hh.cells
    clear hg hh
    have HB := Lib.hid hb
    clear hb
    go_upto_region 5 with fail
    go_cut [8] (fun s8 wx => s8 = .int .i64 (orOf (cmpI i1 i2) (cmpS s1 s2)) ∧ Below wc.heap.size wc wx)
    case first =>
     refine wp_region_still_tail 34 (by kernel_rfl) (by kernel_rfl) ?_
     simp only [List.take_succ_cons, List.take_zero, List.drop_succ_cons, List.drop_zero]
     repeat still_step
     still_call (qs (compare8_same _ _))
     repeat still_step
     still_call (qs (compareI_same _ _))
     repeat still_step
     still_call (qs (compare64 _ _ _))
     repeat still_step
     still_call (qs (compareS _ _ _))
     repeat still_step
     still_call (qs (compareF _))
     repeat still_step
     still_call (qs (compareF _))
     repeat still_step
     refine wpStill_nil ?_
     change wpList _ _ _ _ _ wc.drew
     go_wp2_with (go_at_call 63; refine (or_new _ _ _).mono ?_; rintro e w' ⟨rfl, rfl⟩)
     go_meet
     exact ⟨rfl, sixes_below _ _ _⟩
    case rest =>
     obtain ⟨rfl, hb2⟩ := hcut
     have HB2 := Lib.hid (HB.out.trans (hb2.mono HB.out.size))
     clear hb2 HB
     obtain ⟨c, hcc⟩ : ∃ c, orOf (cmpI i1 i2) (cmpS s1 s2) = c := ⟨_, rfl⟩
     rw [hcc]
     by_cases hc : c = 0
     · subst hc
       have HC := Lib.hid hcc; clear hcc
       go_wp2
       rw [rounds_succ]
       go_wp2
       go_ret
       exact ⟨by rw [HC.out]; rfl, HB2.out⟩
     · have hc' : (c != 0) = true := bne_iff_ne.2 hc
       have HC := Lib.hid hcc; clear hcc
       clear hc
       go_wp2
       go_ret
       exact ⟨by rw [HC.out]; rfl, HB2.out⟩
end Go.Proofs.Ytibalalijfdkoaa
