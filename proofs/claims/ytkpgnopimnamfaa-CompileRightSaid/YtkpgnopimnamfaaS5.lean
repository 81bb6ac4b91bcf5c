/- check.Slots, whole. -/
import Derived.Test.YtkpgnopimnamfaaS4
import Derived.OwnWalk
namespace Go.Proofs.Ytkpgnopimnamfaa
open Go.ChangeShapes Go.WideShapes Go.ChangeAt Go.RowKit
/-- What Slots says of twigs: the slots, the place, the error. -/
def SlotsIs (T : List Tw) (l : Option (List Int)) (at_ e : Int) : Prop :=
  (¬ (treeSpec T).2 = 0 ∧ l = none ∧ at_ = (treeSpec T).1 ∧ e = (treeSpec T).2) ∨
  ((treeSpec T).2 = 0 ∧ ∃ x ks, (Ro.node x ks).flat = T ∧ okR (fun _ => true) (.node x ks) ∧ T.length ≤ 2048 ∧
    ((¬ x.op = 1 ∧ l = none ∧ at_ = 0 ∧ e = 3) ∨
     (x.op = 1 ∧ ¬ (sl [] 0 (.node x ks)).2.2.2.2.1 = 0 ∧ l = none ∧ at_ = ((sl [] 0 (.node x ks)).2.2.2.2.2 : Int) ∧ e = (sl [] 0 (.node x ks)).2.2.2.2.1) ∨
     (x.op = 1 ∧ (sl [] 0 (.node x ks)).2.2.2.2.1 = 0 ∧ l = some (sl [] 0 (.node x ks)).2.2.2.1 ∧ at_ = 0 ∧ e = 0)))
theorem slotsIs (T : List Tw) : ∃ l a e, SlotsIs T l a e := by
  by_cases h : (treeSpec T).2 = 0
  · obtain ⟨⟨x, ks⟩, h1, h2, h3⟩ := tree_parse h
    by_cases h4 : x.op = 1
    · by_cases h5 : (sl [] 0 (.node x ks)).2.2.2.2.1 = 0
      · exact ⟨_, _, _, .inr ⟨h, x, ks, h1, h2, h3, .inr (.inr ⟨h4, h5, rfl, rfl, rfl⟩)⟩⟩
      · exact ⟨_, _, _, .inr ⟨h, x, ks, h1, h2, h3, .inr (.inl ⟨h4, h5, rfl, rfl, rfl⟩)⟩⟩
    · exact ⟨_, _, _, .inr ⟨h, x, ks, h1, h2, h3, .inl ⟨h4, rfl, rfl, rfl⟩⟩⟩
  · exact ⟨_, _, _, .inl ⟨h, rfl, rfl, rfl⟩⟩
/-- A list of slots, or nil. -/
def SliceIs (w : World) (B : Nat) (v : Value) : Option (List Int) → Prop
  | none => v = .slice none 0 0
  | some l => ∃ g co, v = .slice g l.length co ∧ w.ownsRow B 3 1 (.slice g l.length co) l.length (l.map (Value.int .i64))
def SlotsPost (w : World) (l : Option (List Int)) (at_ e : Int) (en : Ending) (w' : World) : Prop :=
  ∃ v, en = .returned (.tuple #[v, .int .i64 at_, .int .i64 e]) ∧ SliceIs w' w.heap.size v l ∧ Below w.heap.size w w'
set_option maxRecDepth 100000 in
set_option maxHeartbeats 1000000 in
theorem slots_bad (w : World) (pa : Option Addr) (cap : Nat) (T : List Tw) (hT : T.length ≤ 5000) (hA : TreeAt w pa w.heap.size T) (h : ¬ (treeSpec T).2 = 0) :
    Calls Try.prog 12 #[.slice pa T.length cap] w (SlotsPost w none (treeSpec T).1 (treeSpec T).2) := by
  have HA := Lib.hid hA; have HT := Lib.hid hT; clear hA hT
  obtain ⟨p, q, hpq⟩ : ∃ p q, treeSpec T = (p, q) := ⟨_, _, rfl⟩
  rw [hpq] at h ⊢
  have E := Lib.hid hpq; clear hpq
  dsimp only at h ⊢
  go_enter Try.func12, Try.ntmps12
  go_wp2_with fail
  have hA2 : TreeAt (w.alloc (.cells #[.slice pa T.length cap] 23)) pa (w.alloc (.cells #[.slice pa T.length cap] 23)).heap.size T := (HA.out.below ((Below.refl _ w).alloc (Nat.le_refl _) _)).mono (by simp)
  refine (check_any _ pa cap T HT.out hA2).mono ?_
  rw [E.out]
  rintro e w1 ⟨rfl, hB⟩
  have HB := Lib.hid hB; clear hB hA2
  go_wp2_with fail
  go_ret3
  exact ⟨_, rfl, rfl, ((Below.refl _ w).alloc (Nat.le_refl _) _).trans (HB.out.mono (by simp))⟩
theorem cell_head {w : World} {pa : Option Addr} {B : Nat} {x : Tw} {T : List Tw} (h : TreeAt w pa B (x :: T)) : ∃ A, pa = some A ∧ A.block < B ∧ w.cell? A = some (.int .u8 x.op) ∧ w.cell? ⟨A.block, A.off + 1, none⟩ = some (.int .i64 x.kids) := by
  obtain ⟨A, ha, hb, h0, h1, _⟩ := h 0 x rfl
  exact ⟨A, ha, hb, by simpa [Addr.add] using h0, by simpa [Addr.add] using h1⟩
set_option maxRecDepth 100000 in
set_option maxHeartbeats 1000000 in
theorem slots_not (w : World) (pa : Option Addr) (cap : Nat) (op kids num : Int) (text : ByteArray) (T : List Tw) (hT : ((op, kids, num, text) :: T).length ≤ 5000) (hA : TreeAt w pa w.heap.size ((op, kids, num, text) :: T)) (h : (treeSpec ((op, kids, num, text) :: T)).2 = 0) (hop : ¬ op = 1) :
    Calls Try.prog 12 #[.slice pa ((op, kids, num, text) :: T).length cap] w (SlotsPost w none 0 3) := by
  have HA := Lib.hid hA; have HT := Lib.hid hT; clear hA hT
  have ⟨p, hp⟩ : ∃ p, treeSpec ((op, kids, num, text) :: T) = (p, 0) := ⟨_, by rw [← h]⟩
  have E := Lib.hid hp; clear hp h
  obtain ⟨n, hn⟩ : ∃ n, ((op, kids, num, text) :: T).length = n := ⟨_, rfl⟩
  have HN := Lib.hid hn; rw [hn]; 
  have hn0 : 0 < n := by rw [← hn]; simp
  clear hn
  obtain ⟨A, hpa, hAB, a0, a1⟩ := cell_head HA.out
  subst hpa
  go_enter Try.func12, Try.ntmps12
  go_wp2_with fail
  have hA2 : TreeAt (w.alloc (.cells #[.slice (some A) n cap] 23)) (some A) (w.alloc (.cells #[.slice (some A) n cap] 23)).heap.size ((op, kids, num, text) :: T) := (HA.out.below ((Below.refl _ w).alloc (Nat.le_refl _) _)).mono (by simp)
  have hc := check_any _ (some A) cap _ HT.out hA2
  rw [HN.out] at hc
  refine hc.mono ?_
  rw [E.out]
  rintro e w1 ⟨rfl, hB⟩
  have k1 : w1.cell? ⟨w.heap.size, 0, none⟩ = some (.slice (some A) n cap) := cell_up (Boxed.new w 23 (.slice (some A) n cap)).cell hB (by simp)
  have k2 : w1.cell? A = some (.int .u8 op) := cell_up a0 (((Below.refl w.heap.size w).alloc (Nat.le_refl _) (.cells #[.slice (some A) n cap] 23)).trans (hB.mono (by simp))) hAB
  have HB := Lib.hid hB; clear hB hA2 hc
  go_wp2_with fail
  go_ret3
  exact ⟨_, rfl, rfl, ((Below.refl _ w).alloc (Nat.le_refl _) _).trans (HB.out.mono (by simp))⟩
theorem own_base {w : World} {B B' n : Nat} {ty : TypeId} {sz : Nat} {v : Value} {xs : List Value} (h : w.ownsRow B ty sz v n xs) (hB : B' ≤ B) : w.ownsRow B' ty sz v n xs := by
  refine ⟨h.1, ?_⟩
  rcases h.2 with hn | ⟨g, cap, cur, e, hb, r⟩
  · exact .inl hn
  · exact .inr ⟨g, cap, cur, e, by omega, r⟩
/-- The world ahead of Slots' walk. -/
def SlotsStart (w : World) (pa : Option Addr) (cap : Nat) (T : List Tw) (W : World) (bt H bs bm bo bn bq be bw : Nat) : Prop :=
  OrdS bt H bs bm bo bn bq be bw ∧ SF W pa cap T bt H bs bm bo bn bq be bw ∧ SV W bm bo bn bq 0 [] 0 0 ∧ MapAt keyS W H (mv []) ∧ Below w.heap.size w W ∧ bt = w.heap.size
theorem start_any {w w2 : World} {pa : Option Addr} {cap : Nat} {T : List Tw} {H g : Nat} (hA : TreeAt w pa w.heap.size T) (b1 : Boxed w2 w.heap.size 23 (.slice pa T.length cap)) (hH : w.heap.size < H) (b2 : Boxed w2 (H + 1) 58 (.map (some H))) (b3 : Boxed w2 (H + 1 + 1) 3 (.int .i64 0)) (hM : MapAt keyS w2 H (mv [])) (hB : Below w.heap.size w w2)
    (hown : w2.ownsRow (H + 1 + 1 + 1) 3 1 (.slice (some ⟨g, 0, none⟩) 0 T.length) 0 []) :
    SlotsStart w pa cap T (((((w2.alloc (.cells #[.slice (some ⟨g, 0, none⟩) 0 T.length] 41)).alloc (.cells #[.int .i64 0] 3)).alloc (.cells #[.int .i64 0] 26)).alloc (.cells #[.func (.func 17) #[] #[pt (H + 1), pt (w2.heap.size + 1 + 1), pt (H + 1 + 1), pt w2.heap.size]] 60)).alloc (.cells #[.func (.func 18) #[] #[pt w.heap.size, pt (w2.heap.size + 1), pt (H + 1 + 1), pt (w2.heap.size + 1 + 1 + 1), pt (H + 1), pt (w2.heap.size + 1 + 1), pt w2.heap.size, pt (w2.heap.size + 1 + 1 + 1 + 1)]] 61))
      w.heap.size H (H + 1) (H + 1 + 1) w2.heap.size (w2.heap.size + 1) (w2.heap.size + 1 + 1) (w2.heap.size + 1 + 1 + 1) (w2.heap.size + 1 + 1 + 1 + 1) := by
  have l3 := b3.lt
  have hg := hown.lt g rfl
  have hlt : w.heap.size ≤ w2.heap.size := hB.size
  refine ⟨by unfold OrdS; omega, ⟨((((b1.alloc _).alloc _).alloc _).alloc _).alloc _, ((((b2.alloc _).alloc _).alloc _).alloc _).alloc _, ?_, ?_, ?_⟩, ⟨((((b3.alloc _).alloc _).alloc _).alloc _).alloc _, ?_, ?_, some ⟨g, 0, none⟩, T.length, ?_, ?_, ?_⟩, ((((hM.alloc _).alloc _).alloc _).alloc _).alloc _, ?_, rfl⟩
  · have := Boxed.new (((w2.alloc (.cells #[.slice (some ⟨g, 0, none⟩) 0 T.length] 41)).alloc (.cells #[.int .i64 0] 3)).alloc (.cells #[.int .i64 0] 26)) 60 (.func (.func 17) #[] #[pt (H + 1), pt (w2.heap.size + 1 + 1), pt (H + 1 + 1), pt w2.heap.size])
    simp only [World.size_alloc] at this
    exact this.alloc _
  · have := Boxed.new ((((w2.alloc (.cells #[.slice (some ⟨g, 0, none⟩) 0 T.length] 41)).alloc (.cells #[.int .i64 0] 3)).alloc (.cells #[.int .i64 0] 26)).alloc (.cells #[.func (.func 17) #[] #[pt (H + 1), pt (w2.heap.size + 1 + 1), pt (H + 1 + 1), pt w2.heap.size]] 60)) 61 (.func (.func 18) #[] #[pt w.heap.size, pt (w2.heap.size + 1), pt (H + 1 + 1), pt (w2.heap.size + 1 + 1 + 1), pt (H + 1), pt (w2.heap.size + 1 + 1), pt w2.heap.size, pt (w2.heap.size + 1 + 1 + 1 + 1)])
    simp only [World.size_alloc] at this
    exact this
  · exact hA.below (((((hB.alloc (by omega) _).alloc (by simp; omega) _).alloc (by simp; omega) _).alloc (by simp; omega) _).alloc (by simp; omega) _)
  · have := Boxed.new (w2.alloc (.cells #[.slice (some ⟨g, 0, none⟩) 0 T.length] 41)) 3 (.int .i64 0)
    simp only [World.size_alloc] at this
    exact ((this.alloc _).alloc _).alloc _
  · have := Boxed.new ((w2.alloc (.cells #[.slice (some ⟨g, 0, none⟩) 0 T.length] 41)).alloc (.cells #[.int .i64 0] 3)) 26 (.int .i64 0)
    simp only [World.size_alloc] at this
    exact (this.alloc _).alloc _
  · exact ((((Boxed.new w2 41 (.slice (some ⟨g, 0, none⟩) 0 T.length)).alloc _).alloc _).alloc _).alloc _
  · exact ((((hown.alloc _).alloc _).alloc _).alloc _).alloc _
  · simp [Value.ownBlock]; omega
  · exact ((((hB.alloc (by omega) _).alloc (by simp; omega) _).alloc (by simp; omega) _).alloc (by simp; omega) _).alloc (by simp; omega) _
set_option maxRecDepth 100000 in
set_option maxHeartbeats 1000000 in
theorem slots_flow (w : World) (pa : Option Addr) (cap : Nat) (kids num : Int) (text : ByteArray) (ks : List Ro) (T : List Tw) (hTT : (Ro.node (1, kids, num, text) ks).flat = T) (hT : T.length ≤ 2048) (hA : TreeAt w pa w.heap.size T) (h : (treeSpec T).2 = 0) (hok : okR (fun _ => true) (.node (1, kids, num, text) ks))
    (nm : ByteArray) (s0 : Int) (m0 : Nat) (outs : List Int) (f0 : Int) (ad : Nat) (hf : sl [] 0 (.node (1, kids, num, text) ks) = (nm, s0, m0, outs, f0, ad)) (l : Option (List Int)) (at_ : Int) (hcase : (f0 = 0 ∧ l = some outs ∧ at_ = 0) ∨ (¬ f0 = 0 ∧ l = none ∧ at_ = ad)) :
    Calls Try.prog 12 #[.slice pa T.length cap] w (SlotsPost w l at_ f0) := by
  obtain ⟨i0, hi, hz0, hz1, hz2⟩ := info_parts info3
  have HA := Lib.hid hA; have HT := Lib.hid hT; have HOK := Lib.hid hok; have HTT := Lib.hid hTT; have HFF := Lib.hid hf; have HCASE := Lib.hid hcase; clear hA hok hf hcase
  have ⟨p, hp⟩ : ∃ p, treeSpec T = (p, 0) := ⟨_, by rw [← h]⟩
  have E := Lib.hid hp; clear hp h
  have hA0 := HA.out
  rw [← hTT, Ro.flat] at hA0
  obtain ⟨A, hpa, hAB, a0, a1⟩ := cell_head hA0
  subst hpa
  have hn0 : 0 < T.length := by rw [← hTT]; simp [Ro.flat]
  clear hA0 hTT
  go_enter Try.func12, Try.ntmps12
  go_wp2_with fail
  have hA2 : TreeAt (w.alloc (.cells #[.slice (some A) T.length cap] 23)) (some A) (w.alloc (.cells #[.slice (some A) T.length cap] 23)).heap.size T := (HA.out.below ((Below.refl _ w).alloc (Nat.le_refl _) _)).mono (by simp)
  refine (check_any _ (some A) cap _ (by have := HT.out; omega) hA2).mono ?_
  rw [E.out]
  rintro e w1 ⟨rfl, hB⟩
  have T1 := (Boxed.new w 23 (.slice (some A) T.length cap)).up hB
  have k1 : w1.cell? ⟨w.heap.size, 0, none⟩ = some (.slice (some A) T.length cap) := T1.cell
  have k2 : w1.cell? A = some (.int .u8 1) := cell_up a0 (((Below.refl w.heap.size w).alloc (Nat.le_refl _) (.cells #[.slice (some A) T.length cap] 23)).trans (hB.mono (by simp))) hAB
  have hz : w.heap.size + 1 ≤ w1.heap.size := by have := hB.size; simp at this; omega
  have hz' : w.heap.size < w1.heap.size := by omega
  have HB := Lib.hid hB; have HT1 := Lib.hid T1; have HZ := Lib.hid hz; clear hB hA2 T1
  have hmk : (Instr.makeMap 58 none).run Try.prog w1 = .ok (.map (some w1.heap.size)) (w1.alloc (.map #[] 0)) := rfl
  go_upto_region 8 with fail
  have A1 : Hid (Boxed (((w1.alloc (.map #[] 0)).alloc (.cells #[.map (some w1.heap.size)] 58)).alloc (.cells #[.int .i64 0] 3)) w.heap.size 23 (.slice (some A) T.length cap)) := Lib.hid (((HT1.out.alloc _).alloc _).alloc _)
  have A2 : Hid (MapAt keyS (((w1.alloc (.map #[] 0)).alloc (.cells #[.map (some w1.heap.size)] 58)).alloc (.cells #[.int .i64 0] 3)) w1.heap.size (mv [])) := Lib.hid (((mapAt_new keyS w1).alloc _).alloc _)
  have A3 : Hid (Boxed (((w1.alloc (.map #[] 0)).alloc (.cells #[.map (some w1.heap.size)] 58)).alloc (.cells #[.int .i64 0] 3)) (w1.heap.size + 1) 58 (.map (some w1.heap.size))) := Lib.hid (by
    have := (Boxed.new (w1.alloc (.map #[] 0)) 58 (.map (some w1.heap.size))).alloc (.cells #[.int .i64 0] 3)
    rwa [World.size_alloc] at this)
  have A4 : Hid (Boxed (((w1.alloc (.map #[] 0)).alloc (.cells #[.map (some w1.heap.size)] 58)).alloc (.cells #[.int .i64 0] 3)) (w1.heap.size + 1 + 1) 3 (.int .i64 0)) := Lib.hid (by
    have := Boxed.new ((w1.alloc (.map #[] 0)).alloc (.cells #[.map (some w1.heap.size)] 58)) 3 (.int .i64 0)
    rwa [World.size_alloc, World.size_alloc] at this)
  have A5 : Hid (Below w.heap.size w (((w1.alloc (.map #[] 0)).alloc (.cells #[.map (some w1.heap.size)] 58)).alloc (.cells #[.int .i64 0] 3))) := Lib.hid (by
    have hb : Below w.heap.size w w1 := ((Below.refl _ w).alloc (Nat.le_refl _) (.cells #[.slice (some A) T.length cap] 23)).trans (HB.out.mono (by simp))
    exact (((hb.alloc (by omega) _).alloc (by simp; omega) _).alloc (by simp; omega) _))
  have A6 : (((w1.alloc (.map #[] 0)).alloc (.cells #[.map (some w1.heap.size)] 58)).alloc (.cells #[.int .i64 0] 3)).heap.size = w1.heap.size + 1 + 1 + 1 := by simp
  obtain ⟨wa, hwa⟩ : ∃ wa, ((w1.alloc (.map #[] 0)).alloc (.cells #[.map (some w1.heap.size)] 58)).alloc (.cells #[.int .i64 0] 3) = wa := ⟨_, rfl⟩
  rw [hwa] at A1 A2 A3 A4 A5 A6 ⊢
  clear hwa k1 k2 a0 a1 hmk
  have SZ := Lib.hid A6
  have BB : w1.heap.size + 1 + 1 + 1 ≤ wa.heap.size := by omega
  have HBB := Lib.hid BB; clear BB A6
  have k1 := A1.out.cell
  go_upto_region 9 with (refine wpList_make_own _ rfl (.const (.int .i64 0)) (.tmp 30) 41 rfl (w1.heap.size + 1 + 1 + 1) 3 i0 _ 1 und41 hi hz0 hz1 .i64 .i64 T.length T.length rfl rfl rfl (by rw [hz2]; have := HT.out; omega) (by unfold maxLen; have := HT.out; omega) HBB.out ?_; intro w2 hown2 hgrow2)
  have G1 := A1.out.kept hgrow2 (by simp)
  have ST := Lib.hid (start_any HA.out G1 hz' (A3.out.kept hgrow2 (by simp)) (A4.out.kept hgrow2 (by simp)) (A2.out.of_block (hgrow2.block _ A2.out.lt (by simp))) (A5.out.grown hgrow2 A5.out.size (fun k h => by cases h)) hown2)
  clear hown2 hgrow2 k1 G1
  go_wp2_with fail
  obtain ⟨ho, hF, hV, hM, hB5, hbt⟩ := ST.out
  refine (slots_any (some A) cap T HT.out _ _ _ _ _ _ _ _ _ ho _ (.node (1, kids, num, text) ks) (Nat.le_refl _) _ HOK.out _ 0 0 [] [] hF hV hM ?_ ?_ ?_).mono ?_
  · rw [HTT.out]; exact Lies.all T
  · rw [HTT.out]; have := HT.out; omega
  · rw [HTT.out]; have := HT.out; simp; omega
  rw [HFF.out]
  rintro e w9 hpost
  obtain ⟨rfl, hF9, hV9, _, hS9⟩ := hpost
  dsimp only at hV9
  obtain ⟨_, n9, q9, g9, c9, o9, w9own, _⟩ := hV9
  have k1 := n9.cell
  have k2 := q9.cell
  have k3 := o9.cell
  have B9 := Lib.hid (hB5.trans hS9.1)
  have OWN9 := Lib.hid w9own
  clear ho hF hV hM hB5 hbt hF9 hS9 n9 q9 o9 w9own
  rcases HCASE.out with ⟨rfl, rfl, rfl⟩ | ⟨hf, rfl, rfl⟩
  · go_wp2_with fail
    go_ret3
    have hw := OWN9.out
    simp only [List.nil_append] at hw
    exact ⟨_, rfl, ⟨g9, c9, rfl, own_base hw (by omega)⟩, B9.out⟩
  · go_wp2_with fail
    go_quiet (fail)
    go_wp2_with fail
    go_ret3
    exact ⟨_, rfl, rfl, ⟨B9.out.os, B9.out.tape, B9.out.output, B9.out.size, B9.out.block⟩⟩
/-- Slots. -/
theorem slots_is (w : World) (pa : Option Addr) (cap : Nat) (T : List Tw) (hT : T.length ≤ 5000) (hA : TreeAt w pa w.heap.size T) (l : Option (List Int)) (at_ e : Int) (h : SlotsIs T l at_ e) :
    Calls Try.prog 12 #[.slice pa T.length cap] w (SlotsPost w l at_ e) := by
  rcases h with ⟨h, rfl, rfl, rfl⟩ | ⟨h, x, ks, hfl, hok, hT', hc⟩
  · exact slots_bad w pa cap T hT hA h
  · obtain ⟨op, kids, num, text⟩ := x
    dsimp only [Tw.op] at hc
    rcases hc with ⟨hop, rfl, rfl, rfl⟩ | ⟨rfl, hf, hl, ha, he⟩ | ⟨rfl, hf, hl, ha, he⟩
    · rw [Ro.flat] at hfl
      subst hfl
      exact slots_not w pa cap op kids num text _ hT hA h hop
    · obtain ⟨nm, s0, m0, outs, f0, ad, hs⟩ : ∃ nm s0 m0 outs f0 ad, sl [] 0 (.node (1, kids, num, text) ks) = (nm, s0, m0, outs, f0, ad) := ⟨_, _, _, _, _, _, rfl⟩
      rw [hs] at hf ha he
      rw [he]
      exact slots_flow w pa cap kids num text ks T hfl hT' hA h hok nm s0 m0 outs f0 ad hs l at_ (.inr ⟨hf, hl, ha⟩)
    · obtain ⟨nm, s0, m0, outs, f0, ad, hs⟩ : ∃ nm s0 m0 outs f0 ad, sl [] 0 (.node (1, kids, num, text) ks) = (nm, s0, m0, outs, f0, ad) := ⟨_, _, _, _, _, _, rfl⟩
      rw [hs] at hf hl
      dsimp only at hf hl
      subst hf; subst he
      exact slots_flow w pa cap kids num text ks T hfl hT' hA h hok nm s0 m0 outs 0 ad hs l at_ (.inl ⟨rfl, hl, ha⟩)
end Go.Proofs.Ytkpgnopimnamfaa
