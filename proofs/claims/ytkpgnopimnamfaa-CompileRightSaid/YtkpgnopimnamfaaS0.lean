/- check.Slots: what its walk finds in the world; enter. -/
import Derived.Test.YtkpgnopimnamfaaA9
import Derived.Deep.AppendLies
namespace Go.Proofs.Ytkpgnopimnamfaa
open Go.ChangeShapes Go.WideShapes Go.ChangeAt Go.RowKit
theorem und58 : Try.prog.underlying 58 = some (.map 9 3) := by kernel_rfl
theorem und9 : Try.prog.underlying 9 = some .string := by kernel_rfl
theorem und41 : Try.prog.underlying 41 = some (.slice 3) := by kernel_rfl
theorem zero3 (w : World) : (zeroValue 3).run Try.prog w = .ok (.int .i64 0) w := by kernel_rfl
theorem info3 : (Try.prog.info? 3).map (fun i => (i.zero, i.size, i.bytes)) = some (some (.int .i64 0), 1, 8) := by kernel_rfl
/-- What a name is to the map. -/
abbrev keyS : ByteArray → Value := fun s => Value.string s
abbrev Seen : Type := List (ByteArray × Int)
def mv (L : Seen) : List (ByteArray × Value) := L.map fun p => (p.1, Value.int .i64 p.2)
/-- The slot of a name. -/
def li (L : Seen) (k : ByteArray) : Option Int := (L.find? fun p => decide (p.1 = k)).map (·.2)
theorem lk_mv (L : Seen) (k : ByteArray) : lk (mv L) k = (li L k).map (Value.int .i64 ·) := by
  induction L with
  | nil => rfl
  | cons p L ih =>
    by_cases h : p.1 = k
    · simp [lk, li, mv, h]
    · have e1 : lk (mv (p :: L)) k = lk (mv L) k := by simp [lk, mv, h]
      have e2 : li (p :: L) k = li L k := by simp [li, h]
      rw [e1, e2, ih]
theorem mv_app (L M : Seen) : mv (L ++ M) = mv L ++ mv M := by simp [mv]
/-- The fault of entering a name. -/
def entF (L : Seen) (made : Nat) (name : ByteArray) : Int := if (li L name).isSome = true then 111 else if made = 100 then 2 else 0
/-- Of what was there, only these kinds of variables may have turned, and the map. -/
def Sw (B : Nat) (w w' : World) : Prop := Below B w w' ∧ ∀ (k : Nat) (c : Array Value) (t : TypeId) (fz : Nat × Nat), w.heap[k]? = some (.cells c t fz) → t ≠ 3 → t ≠ 26 → t ≠ 41 → w'.heap[k]? = some (.cells c t fz)
section
variable {B : Nat} {w w' w'' : World}
theorem Sw.refl (B : Nat) (w : World) : Sw B w w := ⟨Below.refl _ _, fun _ _ _ _ h _ _ _ => h⟩
theorem Sw.trans (h : Sw B w w') (k : Sw B w' w'') : Sw B w w'' := ⟨h.1.trans k.1, fun i c t fz hi h1 h2 h3 => k.2 i c t fz (h.2 i c t fz hi h1 h2 h3) h1 h2 h3⟩
theorem Sw.size (h : Sw B w w') : w.heap.size ≤ w'.heap.size := h.1.size
theorem Sw.of_below (h : Below w.heap.size w w') (hB : B ≤ w.heap.size) : Sw B w w' := ⟨h.mono hB, fun k _ _ _ hk _ _ _ => (h.block k (Array.getElem?_eq_some_iff.1 hk).1).trans hk⟩
theorem Sw.alloc (h : Sw B w w') (hB : B ≤ w.heap.size) (o : Obj) : Sw B w (w'.alloc o) := h.trans (.of_below ((Below.refl _ _).alloc (Nat.le_refl _) o) (Nat.le_trans hB h.size))
theorem Sw.set (h : Sw B w w') {b : Nat} {t : TypeId} {u : Value} (hb : Boxed w' b t u) (ht : t = 3 ∨ t = 26 ∨ t = 41) (hB : B ≤ b) (v : Value) : Sw B w (w'.setCell ⟨b, 0, none⟩ v) :=
  h.trans ⟨(Below.refl B w').setCell hB v, fun k c t' fz hk h1 h2 h3 => (Below.heap_setCell _ _ _ _ (fun e => by
    have e' : k = b := e
    subst e'
    have hb' : w'.heap[k]? = some (.cells #[u] t (0, 0)) := hb
    rw [hb'] at hk; cases hk
    rcases ht with ht | ht | ht
    · exact h1 ht
    · exact h2 ht
    · exact h3 ht)).trans hk⟩
theorem Sw.upd {H : Nat} (h : Sw B w w') (hu : Upd H w' w'') (hB : B ≤ H) {es : Array MapEntry} {c : Nat} (hm : w'.heap[H]? = some (.map es c)) : Sw B w w'' :=
  h.trans ⟨hu.below (Below.refl _ _) hB, fun k c t fz hk _ _ _ => (hu.block (fun e => by subst e; rw [hm] at hk; cases hk)).trans hk⟩
theorem Sw.grown (h : Sw B w w') {n B' : Nat} {v : Value} {xs : List Value} (ho : w'.ownsRow B' 3 1 v n xs) (hBB : B ≤ B') (hg : w'.grownBy w'' v.ownBlock) (hB : B ≤ w'.heap.size) : Sw B w w'' := by
  refine h.trans ⟨⟨hg.os, hg.tape, hg.output, hg.size, fun k hk => hg.block k (by omega) fun e => ?_⟩, fun k c t fz hk h1 _ _ => (hg.block k (Array.getElem?_eq_some_iff.1 hk).1 fun e => ?_).trans hk⟩
  · have := (ho.lt k e.symm).1; omega
  · rcases ho.2 with ⟨rfl, _⟩ | ⟨g, cap, cur, rfl, hb, hgg, _⟩
    · simp [Value.ownBlock] at e
    · simp [Value.ownBlock] at e
      subst e
      rw [hgg] at hk; cases hk; exact h1 rfl
theorem Sw.box (h : Sw B w w') {b : Nat} {t : TypeId} {v : Value} (hb : Boxed w b t v) (h1 : t ≠ 3) (h2 : t ≠ 26) (h3 : t ≠ 41) : Boxed w' b t v := h.2 b _ _ _ hb h1 h2 h3
end
def OrdS (bt H bs bm bo bn bq be bw : Nat) : Prop := bt < H ∧ H < bs ∧ bs < bm ∧ bm < bo ∧ bo < bn ∧ bn < bq ∧ bq < be ∧ be < bw
/-- What never turns. -/
def SF (w : World) (pa : Option Addr) (cap : Nat) (T : List Tw) (bt H bs bm bo bn bq be bw : Nat) : Prop :=
  Boxed w bt 23 (.slice pa T.length cap) ∧ Boxed w bs 58 (.map (some H)) ∧ Boxed w be 60 (.func (.func 17) #[] #[pt bs, pt bq, pt bm, pt bo]) ∧ Boxed w bw 61 (.func (.func 18) #[] #[pt bt, pt bn, pt bm, pt be, pt bs, pt bq, pt bo, pt bw]) ∧ TreeAt w pa bt T
/-- The variables. -/
def SV (w : World) (bm bo bn bq made : Nat) (outs : List Int) (next : Nat) (fault : Int) : Prop :=
  Boxed w bm 3 (.int .i64 made) ∧ Boxed w bn 3 (.int .i64 next) ∧ Boxed w bq 26 (.int .i64 fault) ∧
  ∃ g co, Boxed w bo 41 (.slice g outs.length co) ∧ w.ownsRow (bm + 1) 3 1 (.slice g outs.length co) outs.length (outs.map (Value.int .i64)) ∧ Value.ownBlock (.slice g outs.length co) ≠ some bn
section
variable {w w' : World} {pa : Option Addr} {cap : Nat} {T : List Tw} {bt H bs bm bo bn bq be bw : Nat}
theorem SF.sw (h : SF w pa cap T bt H bs bm bo bn bq be bw) (hs : Sw bt w w') : SF w' pa cap T bt H bs bm bo bn bq be bw := by
  obtain ⟨h1, h2, h3, h4, h5⟩ := h
  exact ⟨hs.box h1 (by decide) (by decide) (by decide), hs.box h2 (by decide) (by decide) (by decide), hs.box h3 (by decide) (by decide) (by decide), hs.box h4 (by decide) (by decide) (by decide), h5.below hs.1⟩
variable {made next : Nat} {outs : List Int} {fault : Int}
theorem box_set {b c : Nat} {t : TypeId} {v : Value} (h : Boxed w b t v) (hne : b ≠ c) (u : Value) : Boxed (w.setCell ⟨c, 0, none⟩ u) b t v := (Below.heap_setCell _ _ _ _ hne).trans h
theorem own_set {n B' c : Nat} {v : Value} {xs : List Value} (h : w.ownsRow B' 3 1 v n xs) (hc : v.ownBlock ≠ some c) (u : Value) : (w.setCell ⟨c, 0, none⟩ u).ownsRow B' 3 1 v n xs :=
  h.kept (row := some c) ⟨rfl, rfl, rfl, by simp [World.setCell], fun k _ hk => Below.heap_setCell _ _ _ _ (fun e => hk (by rw [e]))⟩ (.inr hc)
theorem own_not {n B' c : Nat} {t : TypeId} {v u : Value} {xs : List Value} (h : w.ownsRow B' 3 1 v n xs) (hb : Boxed w c t u) (ht : t ≠ 3 ∨ c < B') : v.ownBlock ≠ some c := fun e => by
  rcases h.2 with ⟨rfl, _⟩ | ⟨g, cap, cur, rfl, hb', hgg, _⟩
  · simp [Value.ownBlock] at e
  · simp [Value.ownBlock] at e
    subst e
    have hb2 : w.heap[g]? = some (.cells #[u] t (0, 0)) := hb
    rw [hb2] at hgg; cases hgg
    rcases ht with ht | ht
    · exact ht rfl
    · omega
theorem SV.alloc (h : SV w bm bo bn bq made outs next fault) (o : Obj) : SV (w.alloc o) bm bo bn bq made outs next fault := by
  obtain ⟨h1, h2, h3, g, co, h4, h5, h6⟩ := h
  exact ⟨h1.alloc o, h2.alloc o, h3.alloc o, g, co, h4.alloc o, h5.alloc o, h6⟩
theorem SV.setMade (ho : OrdS bt H bs bm bo bn bq be bw) (h : SV w bm bo bn bq made outs next fault) (v : Nat) : SV (w.setCell ⟨bm, 0, none⟩ (.int .i64 v)) bm bo bn bq v outs next fault := by
  obtain ⟨h1, h2, h3, g, co, h4, h5, h6⟩ := h
  unfold OrdS at ho
  exact ⟨h1.set _, box_set h2 (by omega) _, box_set h3 (by omega) _, g, co, box_set h4 (by omega) _, own_set h5 (own_not h5 h1 (.inr (by omega))) _, h6⟩
theorem SV.setNext (ho : OrdS bt H bs bm bo bn bq be bw) (h : SV w bm bo bn bq made outs next fault) (v : Nat) : SV (w.setCell ⟨bn, 0, none⟩ (.int .i64 v)) bm bo bn bq made outs v fault := by
  obtain ⟨h1, h2, h3, g, co, h4, h5, h6⟩ := h
  unfold OrdS at ho
  exact ⟨box_set h1 (by omega) _, h2.set _, box_set h3 (by omega) _, g, co, box_set h4 (by omega) _, own_set h5 h6 _, h6⟩
theorem SV.setFault (ho : OrdS bt H bs bm bo bn bq be bw) (h : SV w bm bo bn bq made outs next fault) (v : Int) : SV (w.setCell ⟨bq, 0, none⟩ (.int .i64 v)) bm bo bn bq made outs next v := by
  obtain ⟨h1, h2, h3, g, co, h4, h5, h6⟩ := h
  unfold OrdS at ho
  exact ⟨box_set h1 (by omega) _, box_set h2 (by omega) _, h3.set _, g, co, box_set h4 (by omega) _, own_set h5 (own_not h5 h3 (.inl (by decide))) _, h6⟩
/-- The list of slots grew by one. -/
theorem SV.grow (ho : OrdS bt H bs bm bo bn bq be bw) (h : SV w bm bo bn bq made outs next fault) {g0 : Option Addr} {co0 : Nat} (hb : Boxed w bo 41 (.slice g0 outs.length co0)) (v : Int) {g cap' : Nat} {w1 : World}
    (hown : w1.ownsRow (bm + 1) 3 1 (.slice (some ⟨g, 0, none⟩) (outs.length + 1) cap') (outs.length + 1) (outs.map (Value.int .i64) ++ [.int .i64 v]))
    (hg : w.grownBy w1 (Value.ownBlock (.slice g0 outs.length co0))) (hor : Value.ownBlock (.slice g0 outs.length co0) = some g ∨ g = w.heap.size) :
    SV (w1.setCell ⟨bo, 0, none⟩ (.slice (some ⟨g, 0, none⟩) (outs.length + 1) cap')) bm bo bn bq made (outs ++ [v]) next fault ∧ Sw bt w (w1.setCell ⟨bo, 0, none⟩ (.slice (some ⟨g, 0, none⟩) (outs.length + 1) cap')) ∧
      w1.cell? ⟨bo, 0, none⟩ = some (.slice g0 outs.length co0) ∧ w1.frozen? ⟨bo, 0, none⟩ = false ∧ ∀ kv L, MapAt (K := ByteArray) kv w H L → MapAt kv (w1.setCell ⟨bo, 0, none⟩ (.slice (some ⟨g, 0, none⟩) (outs.length + 1) cap')) H L := by
  obtain ⟨h1, h2, h3, g', co', h4, h5, h6⟩ := h
  have e4 : w.heap[bo]? = some (.cells #[.slice g' outs.length co'] 41 (0, 0)) := h4
  have e4' : w.heap[bo]? = some (.cells #[.slice g0 outs.length co0] 41 (0, 0)) := hb
  rw [e4] at e4'
  cases e4'
  unfold OrdS at ho
  have k1 := h1.kept hg (fun e => own_not h5 h1 (.inr (by omega)) e.symm)
  have k2 := h2.kept hg (fun e => h6 e.symm)
  have k3 := h3.kept hg (fun e => own_not h5 h3 (.inl (by decide)) e.symm)
  have k4 := h4.kept hg (fun e => own_not h5 h4 (.inl (by decide)) e.symm)
  have hn : (Value.slice (some (⟨g, 0, none⟩ : Addr)) (outs.length + 1) cap').ownBlock ≠ some bn := by
    rcases hor with hor | hor
    · rw [hor] at h6; simpa [Value.ownBlock] using h6
    · have := h2.lt
      simp [Value.ownBlock]; omega
  have sw1 : Sw bt w w1 := (Sw.refl bt w).grown h5 (by omega) hg (by have := h1.lt; omega)
  refine ⟨⟨box_set k1 (by omega) _, box_set k2 (by omega) _, box_set k3 (by omega) _, some ⟨g, 0, none⟩, cap', ?_, ?_, ?_⟩, sw1.set k4 (by decide) (by omega) _, k4.cell, k4.frozen, fun kv L hm => (hm.of_block (hg.block H hm.lt fun e => ?_)).setCell (by simp; omega) _⟩
  · rw [List.length_append]; exact k4.set _
  · simp only [List.length_append, List.length_singleton, List.map_append, List.map_cons, List.map_nil]
    exact own_set hown (own_not hown k4 (.inl (by decide))) _
  · rw [List.length_append]; exact hn
  · obtain ⟨es, c, hmb, _⟩ := hm
    rcases h5.2 with ⟨e5, _⟩ | ⟨g5, cap5, cur5, e5, _, hgg, _⟩
    · rw [e5] at e; simp [Value.ownBlock] at e
    · rw [e5] at e
      simp [Value.ownBlock] at e
      subst e
      rw [hgg] at hmb; cases hmb
end
end Go.Proofs.Ytkpgnopimnamfaa
