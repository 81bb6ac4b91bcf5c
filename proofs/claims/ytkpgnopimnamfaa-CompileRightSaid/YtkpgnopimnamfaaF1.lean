/- compile.Compile. -/
import Derived.Test.YtkpgnopimnamfaaF0
import Derived.Test.YtkpgnopimnamfaaS5
namespace Go.Proofs.Ytkpgnopimnamfaa
open Go.ChangeShapes Go.WideShapes Go.ChangeAt Go.RowKit
set_option maxRecDepth 100000 in
set_option maxHeartbeats 1000000 in
theorem compile_err (w : World) (pa : Option Addr) (cap : Nat) (T : List Tw) (hT : T.length ≤ 5000) (hA : TreeAt w pa w.heap.size T) (at_ e : Int) (hs : SlotsIs T none at_ e) (he : ¬ e = 0) :
    Calls Try.prog 6 #[.slice pa T.length cap] w fun en w' => en = .returned (.tuple #[.slice none 0 0, .int .i64 0, .int .i64 e]) ∧ Below w.heap.size w w' := by
  have HA := Lib.hid hA; have HT := Lib.hid hT; have HS := Lib.hid hs; clear hA hT hs
  go_enter Try.func6, Try.ntmps6
  go_wp2_with fail
  refine (slots_is w pa cap T HT.out HA.out none at_ e HS.out).mono ?_
  rintro en w1 hp
  obtain ⟨v, rfl, hv, hB⟩ := hp
  obtain rfl : v = .slice none 0 0 := hv
  have HB := Lib.hid hB; clear hB
  go_wp2_with fail
  go_ret3
  exact ⟨rfl, HB.out⟩
def CompPost (w : World) (C : List Ins) (n : Int) (en : Ending) (w' : World) : Prop :=
  ∃ ao cp, en = .returned (.tuple #[.slice ao C.length cp, .int .i64 n, .int .i64 0]) ∧ w'.ownsRow w.heap.size 33 4 (.slice ao C.length cp) C.length (codeCells C) ∧ Below w.heap.size w w'
theorem slots_at {w : World} {B n : Nat} {g : Option Addr} {co : Nat} {l : List Int} (h : w.ownsRow B 3 1 (.slice g n co) n (l.map (Value.int .i64))) : SlotsAt w g w.heap.size l := fun k s hk => by
  rcases h.2 with ⟨e, h0⟩ | ⟨g', cap, cur, e, hb, hg, _⟩
  · have h1 := h.1
    rw [h0] at h1
    have : l = [] := List.eq_nil_of_length_eq_zero (by simpa using h1)
    subst this; simp at hk
  · cases e
    exact ⟨_, rfl, (Array.getElem?_eq_some_iff.1 hg).1, h.cells rfl k _ (by simp [hk])⟩
set_option maxRecDepth 100000 in
set_option maxHeartbeats 1000000 in
theorem compile_ok (w : World) (pa : Option Addr) (cap : Nat) (kids num : Int) (text : ByteArray) (ks : List Ro) (T : List Tw) (hfl : (Ro.node (1, kids, num, text) ks).flat = T) (hok : okR (fun _ => true) (.node (1, kids, num, text) ks)) (hT : T.length ≤ 2048) (hA : TreeAt w pa w.heap.size T)
    (outs : List Int) (hs : SlotsIs T (some outs) 0 0) (ho : outs.length = T.length) (C : List Ins) (hC : gen (fun k => outs.getD k 0) (.node (1, kids, num, text) ks) 0 0 = C) :
    Calls Try.prog 6 #[.slice pa T.length cap] w (CompPost w C (kids - 1)) := by
  have HA := Lib.hid hA; have HT := Lib.hid hT; have HS := Lib.hid hs; have HFL := Lib.hid hfl; have HOK := Lib.hid hok; have HO := Lib.hid ho; have HC := Lib.hid hC
  have hkk := kids_of hok.1 (show formT 1 = some (39, 1, 2048, 40) from rfl)
  have hA0 := hA
  rw [← hfl, Ro.flat] at hA0
  obtain ⟨A, hpa, hAB, a0, a1⟩ := cell_head hA0
  subst hpa
  have hn0 : 0 < T.length := by rw [← hfl]; simp [Ro.flat]
  dsimp only [Tw.op, Tw.kids] at a0 a1
  clear hA hT hs hfl hok ho hC hA0 a0
  go_enter Try.func6, Try.ntmps6
  go_wp2_with fail
  refine (slots_is w (some A) cap T (by have := HT.out; omega) HA.out (some outs) 0 0 HS.out).mono ?_
  rintro en w1 hp
  obtain ⟨v, rfl, ⟨g, co, rfl, hown⟩, hB⟩ := hp
  have HB := Lib.hid hB; have HOWN := Lib.hid hown
  clear hB hown
  go_wp2_with fail
  have hb0 : Below w.heap.size w (w1.alloc (.cells #[.slice none 0 0, .slice (some A) T.length cap, .slice g outs.length co, .int .i64 0] 48)) := HB.out.alloc HB.out.size _
  have hN := nx_any w1.heap.size w1.heap.size (Nat.le_refl _) (some A) g cap co T outs HT.out HO.out _ (.node (1, kids, num, text) ks) (Nat.le_refl _) _ HOK.out 0 (by rw [HFL.out]; exact Lies.all T)
  have hR : Reads (w1.alloc (.cells #[.slice none 0 0, .slice (some A) T.length cap, .slice g outs.length co, .int .i64 0] 48)) w1.heap.size (some A) T g outs :=
    ⟨((HA.out.below HB.out).mono HB.out.size).below ((Below.refl _ w1).alloc (Nat.le_refl _) _), (slots_at HOWN.out).below ((Below.refl _ w1).alloc (Nat.le_refl _) _)⟩
  have hG : GoAt (w1.alloc (.cells #[.slice none 0 0, .slice (some A) T.length cap, .slice g outs.length co, .int .i64 0] 48)) w1.heap.size w1.heap.size (.slice (some A) T.length cap) (.slice g outs.length co) 0 [] :=
    ⟨none, 0, (MapKept.heap_alloc w1 _).1, World.ownsRow_nil _ _ _ _⟩
  have hl : (Ro.node (1, kids, num, text) ks).flat.length ≤ 2048 := by rw [HFL.out]; exact HT.out
  have HN := Lib.hid hN; have HR := Lib.hid hR; have HG := Lib.hid hG; have HL := Lib.hid hl; have HB0 := Lib.hid hb0
  clear hN hR hG hl hb0
  refine (HN.out.2 _ [] HR.out HG.out (by have := HL.out; dsimp only [List.length_nil]; omega)).mono ?_
  rintro en w2 hp
  obtain ⟨rfl, hg, hs⟩ := hp
  dsimp only [List.nil_append, List.length_nil] at hg
  rw [HC.out] at hg
  have hb2 := HB0.out.trans (hs.1.mono HB.out.size)
  obtain ⟨ao, cp, hG2, hown2⟩ := hg
  have k0 : w2.cell? ⟨w1.heap.size, 0, none⟩ = some (.slice ao C.length cp) := (cell_block hG2).trans rfl
  have k1 : w2.cell? ⟨A.block, A.off + 1, none⟩ = some (.int .i64 kids) := cell_up a1 hb2 hAB
  have HB2 := Lib.hid hb2; have HOWN2 := Lib.hid hown2
  have hk1 := hkk.1
  have hk2 := hkk.2
  clear hG2 hb2 hown2 hs a1 hkk
  go_wp2_with fail
  go_quiet (fail)
  go_wp2_with fail
  go_ret3
  exact ⟨ao, cp, rfl, own_base HOWN2.out HB.out.size, ⟨HB2.out.os, HB2.out.tape, HB2.out.output, HB2.out.size, HB2.out.block⟩⟩
end Go.Proofs.Ytkpgnopimnamfaa
