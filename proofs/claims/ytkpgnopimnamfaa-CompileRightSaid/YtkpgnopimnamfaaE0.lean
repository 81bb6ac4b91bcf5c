/- The emitter: what lays instructions down, and what fills holes in. -/
import Derived.Test.YtkpgnopimnamfaaA0
import Derived.Defers
import Derived.Deep.AppendLies
import Derived.Deep.RegionLaw
import Derived.StillTailTactics
namespace Go.Proofs.Ytkpgnopimnamfaa
open Go.ChangeShapes Go.WideShapes Go.ChangeAt Go.RowKit
/-- An instruction: what it is, its A, its number, its text. -/
abbrev Ins : Type := Int × Int × Int × ByteArray
def insCells (x : Ins) : List Value := [.int .u8 x.1, .int .i64 x.2.1, .int .i64 x.2.2.1, .string x.2.2.2]
def codeCells (C : List Ins) : List Value := C.flatMap insCells
theorem codeCells_len (C : List Ins) : (codeCells C).length = C.length * 4 := by
  induction C with
  | nil => rfl
  | cons x C ih => simp only [codeCells, List.flatMap_cons, List.length_append, List.length_cons] at *; rw [ih]; simp [insCells]; omega
theorem codeCells_app (C D : List Ins) : codeCells (C ++ D) = codeCells C ++ codeCells D := by simp [codeCells]
theorem codeCells_at (C : List Ins) : ∀ (k : Nat) (x : Ins), C[k]? = some x → ∀ j, j < 4 → (codeCells C)[k * 4 + j]? = (insCells x)[j]? := by
  induction C with
  | nil => intro k x h; simp at h
  | cons y C ih =>
    intro k x h j hj
    have e : codeCells (y :: C) = insCells y ++ codeCells C := by simp [codeCells]
    have l : (insCells y).length = 4 := rfl
    rw [e]
    cases k with
    | zero =>
      simp at h; subst h
      rw [List.getElem?_append_left (by omega)]; simp
    | succ k =>
      rw [List.getElem?_append_right (by omega), l]
      have : (k + 1) * 4 + j - 4 = k * 4 + j := by omega
      rw [this]
      exact ih k x (by simpa using h) j hj
/-- A hole that is filled in. -/
def fillAt (C : List Ins) (k : Nat) (v : Int) : List Ins := C.modify k fun x => (x.1, v, x.2.2)
theorem fillAt_len (C : List Ins) (k : Nat) (v : Int) : (fillAt C k v).length = C.length := by simp [fillAt]
theorem codeCells_fill (C : List Ins) : ∀ (k : Nat) (v : Int), k < C.length → (codeCells C).set (k * 4 + 1) (.int .i64 v) = codeCells (fillAt C k v) := by
  induction C with
  | nil => intro k v h; simp at h
  | cons y C ih =>
    intro k v h
    have e : ∀ z D, codeCells (z :: D) = insCells z ++ codeCells D := fun z D => by simp [codeCells]
    have l : (insCells y).length = 4 := rfl
    rw [e]
    cases k with
    | zero => simp [fillAt, e, insCells]
    | succ k =>
      rw [List.set_append_right _ _ (by omega), l]
      have : (k + 1) * 4 + 1 - 4 = k * 4 + 1 := by omega
      rw [this, ih k v (by simpa using h)]
      simp [fillAt, e]

/-- A world in which, of what was there, only the code and its holder may have turned. -/
def Sv (B G : Nat) (w w' : World) : Prop := Below B w w' ∧ ∀ k c t fz, w.heap[k]? = some (.cells c t fz) → k ≠ G → t ≠ 33 → w'.heap[k]? = some (.cells c t fz)
section
variable {B G : Nat} {w w' w'' : World}
theorem Sv.refl (B G : Nat) (w : World) : Sv B G w w := ⟨Below.refl _ _, fun _ _ _ _ h _ _ => h⟩
theorem Sv.trans (h : Sv B G w w') (k : Sv B G w' w'') : Sv B G w w'' := ⟨h.1.trans k.1, fun i c t fz hi h1 h2 => k.2 i c t fz (h.2 i c t fz hi h1 h2) h1 h2⟩
theorem Sv.size (h : Sv B G w w') : w.heap.size ≤ w'.heap.size := h.1.size
theorem Sv.of_below (h : Below w.heap.size w w') (hB : B ≤ w.heap.size) : Sv B G w w' := ⟨h.mono hB, fun k _ _ _ hk _ _ => (h.block k (Array.getElem?_eq_some_iff.1 hk).1).trans hk⟩
theorem Sv.alloc (h : Sv B G w w') (hB : B ≤ w.heap.size) (o : Obj) : Sv B G w (w'.alloc o) := h.trans (.of_below ((Below.refl _ _).alloc (Nat.le_refl _) o) (Nat.le_trans hB h.size))
theorem Sv.drew (h : Sv B G w w') : Sv B G w w'.drew := ⟨h.1.drew, h.2⟩
theorem Sv.setG (h : Sv B G w w') (hB : B ≤ G) (o : Nat) (v : Value) : Sv B G w (w'.setCell ⟨G, o, none⟩ v) :=
  h.trans ⟨(Below.refl B w').setCell hB v, fun _ _ _ _ hk h1 _ => (Below.heap_setCell _ _ _ _ h1).trans hk⟩
theorem Sv.setRow (h : Sv B G w w') {g : Nat} {c : Array Value} {fz : Nat × Nat} (hg : w'.heap[g]? = some (.cells c 33 fz)) (hB : B ≤ g) (o : Nat) (v : Value) : Sv B G w (w'.setCell ⟨g, o, none⟩ v) :=
  h.trans ⟨(Below.refl B w').setCell hB v, fun _ _ _ _ hk _ h2 => (Below.heap_setCell _ _ _ _ (fun e => by subst e; rw [hg] at hk; cases hk; exact h2 rfl)).trans hk⟩
theorem Sv.grown (h : Sv B G w w') {n : Nat} {v : Value} {xs : List Value} (ho : w'.ownsRow B 33 4 v n xs) (hg : w'.grownBy w'' v.ownBlock) (hB : B ≤ w'.heap.size) : Sv B G w w'' := by
  refine h.trans ⟨⟨hg.os, hg.tape, hg.output, hg.size, fun k hk => ?_⟩, fun k c t fz hk _ h2 => ?_⟩
  · have := ho.2
    by_cases hkw : k < w'.heap.size
    · refine hg.block k hkw fun e => ?_
      have := (ho.lt k e.symm).1
      omega
    · rcases this with ⟨rfl, _⟩ | ⟨g, cap, cur, rfl, hb, hgg, _⟩
      · exact hg.block k (by have := hg.size; omega) (by simp [Value.ownBlock])
      · have := (Array.getElem?_eq_some_iff.1 hgg).1; omega
  · refine (hg.block k (Array.getElem?_eq_some_iff.1 hk).1 fun e => ?_).trans hk
    rcases ho.2 with ⟨rfl, _⟩ | ⟨g, cap, cur, rfl, hb, hgg, _⟩
    · simp [Value.ownBlock] at e
    · simp [Value.ownBlock] at e
      subst e
      rw [hgg] at hk; cases hk; exact h2 rfl
theorem Sv.box (h : Sv B G w w') {b : Nat} {t : TypeId} {v : Value} (hb : Boxed w b t v) (h1 : b ≠ G) (h2 : t ≠ 33) : Boxed w' b t v := h.2 b _ _ _ hb h1 h2
end
theorem own_ne {w : World} {B G n : Nat} {v : Value} {xs : List Value} {c : Array Value} {t : TypeId} {fz : Nat × Nat} (h : w.ownsRow B 33 4 v n xs) (hG : w.heap[G]? = some (.cells c t fz)) (ht : t ≠ 33) : some G ≠ v.ownBlock := by
  rcases h.2 with ⟨rfl, _⟩ | ⟨g, cap, cur, rfl, hb, hgg, _⟩
  · simp [Value.ownBlock]
  · intro e
    simp [Value.ownBlock] at e
    subst e
    rw [hgg] at hG; cases hG; exact ht rfl
theorem setCell_at {w : World} {G o : Nat} {c : Array Value} {t : TypeId} {fz : Nat × Nat} (hG : w.heap[G]? = some (.cells c t fz)) (v : Value) : (w.setCell ⟨G, o, none⟩ v).heap[G]? = some (.cells (c.setIfInBounds o v) t fz) := by
  have hlt := (Array.getElem?_eq_some_iff.1 hG).1
  have e := (Array.getElem?_eq_some_iff.1 hG).2
  simp [World.setCell, hlt, Array.getElem_modify, e]
theorem frozen_block {w : World} {G o : Nat} {c : Array Value} {t : TypeId} (h : w.heap[G]? = some (.cells c t (0, 0))) : w.frozen? ⟨G, o, none⟩ = false := by
  unfold World.frozen?; rw [h]; simp
theorem own_setG {w : World} {B G n : Nat} {v : Value} {xs : List Value} {c : Array Value} {t : TypeId} {fz : Nat × Nat} (h : w.ownsRow B 33 4 v n xs) (hG : w.heap[G]? = some (.cells c t fz)) (ht : t ≠ 33) (o : Nat) (u : Value) : (w.setCell ⟨G, o, none⟩ u).ownsRow B 33 4 v n xs := by
  have hne := own_ne h hG ht
  refine h.kept (row := some G) ⟨rfl, rfl, rfl, by simp [World.setCell], fun k _ hk => Below.heap_setCell _ _ _ _ (fun e => hk (by rw [e]))⟩ (.inr (fun e => hne e.symm))
/-- What a goer holds: its code, its place; the tree and the slots are as values. -/
def GoAt (w : World) (B G : Nat) (tv sv : Value) (a : Nat) (C : List Ins) : Prop :=
  ∃ ao cap, w.heap[G]? = some (.cells #[.slice ao C.length cap, tv, sv, .int .i64 a] 48 (0, 0)) ∧ w.ownsRow B 33 4 (.slice ao C.length cap) C.length (codeCells C)
theorem info33 : (Try.prog.info? 33).map (fun i => (i.zero, i.size, i.bytes)) = some (some (.agg #[.int .u8 0, .int .i64 0, .int .i64 0, .string ⟨#[]⟩]), 4, 40) := by kernel_rfl
theorem und25 : Try.prog.underlying 25 = some (.slice 33) := by kernel_rfl
abbrev ptr (b : Nat) : Value := .pointer (some ⟨b, 0, none⟩)
theorem here_any (w : World) (B G : Nat) (tv sv : Value) (a : Nat) (C : List Ins) (h : GoAt w B G tv sv a C) :
    Calls Try.prog 21 #[ptr G] w fun e w' => e = .returned (.int .i64 C.length) ∧ w = w' := by
  obtain ⟨ao, cap, hG, hown⟩ := h
  have c0 : w.cell? ⟨G, 0, none⟩ = some (.slice ao C.length cap) := by rw [cell_block hG]; rfl
  clear hG hown
  go_enter Try.func21, Try.ntmps21
  go_wp2
  go_ret
  exact ⟨rfl, rfl⟩
set_option maxHeartbeats 1000000 in
theorem put_any (w : World) (B G : Nat) (hB : B ≤ G) (tv sv : Value) (a : Nat) (C : List Ins) (h : GoAt w B G tv sv a C) (hC : C.length ≤ 10000) (op ia num : Int) (text : ByteArray) :
    Calls Try.prog 22 #[ptr G, .agg #[.int .u8 op, .int .i64 ia, .int .i64 num, .string text]] w fun e w' => e = .returned (.int .i64 C.length) ∧ GoAt w' B G tv sv a (C ++ [(op, ia, num, text)]) ∧ Sv B G w w' := by
  obtain ⟨i0, hi, hz0, hz1, hz2⟩ := info_parts info33
  have H := Lib.hid h
  obtain ⟨ao, cap, hG, hown⟩ := h
  have c0 : w.cell? ⟨G, 0, none⟩ = some (.slice ao C.length cap) := by rw [cell_block hG]; rfl
  have f0 : w.frozen? ⟨G, 0, none⟩ = false := by unfold World.frozen?; rw [hG]; rfl
  have HG := Lib.hid hG; have HOWN := Lib.hid hown; clear hG hown
  go_enter Try.func22, Try.ntmps22
  go_wp2_with fail
  have hlt : G < w.heap.size := (Array.getElem?_eq_some_iff.1 HG.out).1
  have OWN : Hid ((((w.alloc (.cells #[.int .u8 op, .int .i64 ia, .int .i64 num, .string text] 33)).alloc (.cells #[.int .u8 op, .int .i64 ia, .int .i64 num, .string text] 33)).drew).ownsRow B 33 4 (.slice ao C.length cap) C.length (codeCells C)) := Lib.hid ((HOWN.out.alloc _).alloc _).drew
  have CEL : Hid (∀ (j : Nat) (u : Value), [Value.int .u8 op, .int .i64 ia, .int .i64 num, .string text][j]? = some u → (((w.alloc (.cells #[.int .u8 op, .int .i64 ia, .int .i64 num, .string text] 33)).alloc (.cells #[.int .u8 op, .int .i64 ia, .int .i64 num, .string text] 33)).drew).cell? ((⟨w.heap.size + 1, 0, none⟩ : Addr).add j) = some u) := Lib.hid (by
    intro j u hu
    have hj : j < 4 := (List.getElem?_eq_some_iff.1 hu).1
    match j, hj, hu with
    | 0, _, hu => simp at hu; subst hu; simp [Addr.add]
    | 1, _, hu => simp at hu; subst hu; simp [Addr.add]
    | 2, _, hu => simp at hu; subst hu; simp [Addr.add]
    | 3, _, hu => simp at hu; subst hu; simp [Addr.add])
  have ONE : Hid (∀ u ∈ [Value.int .u8 op, .int .i64 ia, .int .i64 num, .string text], u.oneCell' = true) := Lib.hid (by
    intro u hu
    simp at hu
    rcases hu with rfl | rfl | rfl | rfl <;> rfl)
  have HB' : B ≤ (((w.alloc (.cells #[.int .u8 op, .int .i64 ia, .int .i64 num, .string text] 33)).alloc (.cells #[.int .u8 op, .int .i64 ia, .int .i64 num, .string text] 33)).drew).heap.size := by simp; omega
  have SV : Hid (Sv B G w (((w.alloc (.cells #[.int .u8 op, .int .i64 ia, .int .i64 num, .string text] 33)).alloc (.cells #[.int .u8 op, .int .i64 ia, .int .i64 num, .string text] 33)).drew)) := Lib.hid (((Sv.refl B G w).alloc (by omega) _).alloc (by omega) _).drew
  have GG : Hid ((((w.alloc (.cells #[.int .u8 op, .int .i64 ia, .int .i64 num, .string text] 33)).alloc (.cells #[.int .u8 op, .int .i64 ia, .int .i64 num, .string text] 33)).drew).heap[G]? = some (.cells #[.slice ao C.length cap, tv, sv, .int .i64 a] 48 (0, 0))) := Lib.hid (by
    show ((w.alloc _).alloc _).heap[G]? = _
    rw [(MapKept.heap_alloc _ _).2 _ (by simp; omega), (MapKept.heap_alloc _ _).2 _ hlt]; exact HG.out)
  go_region_law (refine step_append_lies _ rfl (.tmp 9) (.tmp 11) 25 rfl B 33 i0 _ 4 40 und25 hi hz0 hz1 hz2 rfl (by decide) (.slice ao C.length cap) C.length (codeCells C) (by simp [Act.eval]) OWN.out ⟨w.heap.size + 1, 0, none⟩ 1 1 [Value.int .u8 op, .int .i64 ia, .int .i64 num, .string text] (by simp [Act.eval]) rfl CEL.out ONE.out (by decide) (by unfold maxLen; omega) (by omega) HB' _ rfl ?_; intro g cap' w1 hown1 hgrow1 hg1 hlt1; have G1 := (hgrow1.block G (by simp; omega) (own_ne OWN.out GG.out (by decide))).trans GG.out; have k0 : w1.cell? ⟨G, 0, none⟩ = some (.slice ao C.length cap) := (cell_block G1).trans rfl; have k1 : w1.frozen? ⟨G, 0, none⟩ = false := frozen_block G1; have HOWN1 := Lib.hid hown1; have HGROW1 := Lib.hid hgrow1; have HG1 := Lib.hid G1; clear hown1 hgrow1 G1 hg1 hlt1)
  all_goals
    go_wp2
    go_ret
    refine ⟨rfl, ⟨some ⟨g, 0, none⟩, cap', ?_, ?_⟩, (SV.out.grown OWN.out HGROW1.out HB').setG hB 0 _⟩
    · rw [setCell_at HG1.out]; simp
    · have := HOWN1.out
      rw [codeCells_app]
      simp only [List.length_append, List.length_singleton]
      exact own_setG this HG1.out (by decide) _ _
end Go.Proofs.Ytkpgnopimnamfaa
