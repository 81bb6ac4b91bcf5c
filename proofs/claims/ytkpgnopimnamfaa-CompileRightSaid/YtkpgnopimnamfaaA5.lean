/- Trees as lists, and what tree.Check makes of one: the walk as a function. -/
import Derived.Test.YtkpgnopimnamfaaA4
namespace Go.Proofs.Ytkpgnopimnamfaa
open Go.ChangeShapes Go.WideShapes Go.ChangeAt Go.RowKit

/-- A twig: what it is, how many parts, its number, its text. -/
abbrev Tw : Type := Int × Int × Int × ByteArray
abbrev Tw.op (x : Tw) : Int := x.1
abbrev Tw.kids (x : Tw) : Int := x.2.1
abbrev Tw.num (x : Tw) : Int := x.2.2.1
abbrev Tw.text (x : Tw) : ByteArray := x.2.2.2
def textB (t : Nat) (s : ByteArray) : Bool := if t = 39 then ownB s else if t = 42 then emptyB s else shortB s
def partB (p : Nat) (i n op : Int) : Bool := if p = 40 then paramsB i n op else if p = 41 then false else if p = 43 then stmtB op else if p = 44 then headedB i op else if p = 46 then exprB op else op == 3
def partOf (op : Int) : Nat := match formT op with
  | some (_, _, _, p) => p
  | none => 41
/-- Is a twig right in itself, if its place takes it? -/
def good (x : Tw) (may : Bool) : Bool := match formT x.op with
  | some (t, l, m, _) => may && textB t x.text && decide (l ≤ x.kids) && decide (x.kids ≤ m) && (x.op == 23 || x.num == 0) && decide (0 ≤ x.num)
  | none => false
/-- The loop over a twig's parts: g goes through part i that begins at a place. What is left, the next place, what is wrong, what is deep. -/
def kl (g : Nat → Nat → Int → Nat × Int × Int) : Nat → Nat → Nat → Int → Nat × Int × Int
  | 0, _, next, deep => (next, -1, deep)
  | r + 1, i, next, deep => if (g i next deep).2.1 < 0 then kl g r (i + 1) (g i next deep).1 (g i next deep).2.2 else g i next deep
/-- The walk of tree.Check. -/
def wk (T : List Tw) : Nat → Nat → Int → (Int → Bool) → Int → Nat × Int × Int
  | 0, at_, _, _, deep => (at_, 0, deep)
  | f + 1, at_, lev, may, deep =>
    match T[at_]? with
    | none => (at_, T.length, deep)
    | some x => if good x (may x.op) = true then
        kl (fun i a d => wk T f a (lev + 1) (partB (partOf x.op) i x.kids) d) x.kids.toNat 0 (at_ + 1) (if 40 < lev ∧ deep < 0 then (at_ : Int) else deep)
      else (at_, at_, deep)
theorem kl_ge {g : Nat → Nat → Int → Nat × Int × Int} (hg : ∀ i a d, a ≤ (g i a d).1) : ∀ r i n d, n ≤ (kl g r i n d).1
  | 0, _, _, _ => Nat.le_refl _
  | r + 1, i, n, d => by
    unfold kl
    split
    · exact Nat.le_trans (hg i n d) (kl_ge hg r _ _ _)
    · exact hg i n d
theorem wk_ge (T : List Tw) : ∀ f a l m d, a ≤ (wk T f a l m d).1
  | 0, _, _, _, _ => Nat.le_refl _
  | f + 1, a, l, m, d => by
    unfold wk
    split
    · exact Nat.le_refl _
    · split
      · exact Nat.le_trans (Nat.le_succ a) (kl_ge (fun i a d => wk_ge T f a _ _ d) _ _ _ _)
      · exact Nat.le_refl _
theorem wk_gt {T : List Tw} {f a : Nat} {l : Int} {m : Int → Bool} {d : Int} (h : (wk T f a l m d).2.1 < 0) : a < (wk T f a l m d).1 ∧ a < T.length := by
  cases f with
  | zero => simp [wk] at h
  | succ f =>
    unfold wk at h ⊢
    cases hx : T[a]? with
    | none => simp only [hx] at h; omega
    | some x =>
      simp only [hx] at h ⊢
      refine ⟨?_, (List.getElem?_eq_some_iff.1 hx).1⟩
      by_cases hg : good x (m x.op) = true
      · rw [if_pos hg]
        exact kl_ge (fun i a d => wk_ge T f a _ _ d) _ _ _ _
      · rw [if_neg hg] at h; simp only at h; omega

theorem kl_le {N : Nat} {g : Nat → Nat → Int → Nat × Int × Int} (hg : ∀ i a d, a ≤ N → (g i a d).1 ≤ N) : ∀ r i n d, n ≤ N → (kl g r i n d).1 ≤ N
  | 0, _, _, _, h => h
  | r + 1, i, n, d, h => by
    unfold kl
    split
    · exact kl_le hg r _ _ _ (hg i n d h)
    · exact hg i n d h
theorem wk_le (T : List Tw) : ∀ f a l m d, a ≤ T.length → (wk T f a l m d).1 ≤ T.length
  | 0, _, _, _, _, h => h
  | f + 1, a, l, m, d, h => by
    unfold wk
    split
    · exact h
    · rename_i x hx
      split
      · exact kl_le (fun i a d h => wk_le T f a _ _ d h) _ _ _ _ (List.getElem?_eq_some_iff.1 hx).1
      · exact h
/-- What Check says: the place, the error. -/
def treeSpec (T : List Tw) : Int × Int :=
  if 2048 < T.length then (0, 2) else
  if 0 ≤ (wk T (T.length + 1) 0 1 (fun _ => true) (-1)).2.1 then ((wk T (T.length + 1) 0 1 (fun _ => true) (-1)).2.1, 3) else
  if (wk T (T.length + 1) 0 1 (fun _ => true) (-1)).1 < T.length then ((wk T (T.length + 1) 0 1 (fun _ => true) (-1)).1, 3) else
  if 0 ≤ (wk T (T.length + 1) 0 1 (fun _ => true) (-1)).2.2 then ((wk T (T.length + 1) 0 1 (fun _ => true) (-1)).2.2, 2) else (0, 0)

/-- A world in which but the blocks of a set are as they were. -/
def Sav (S : Nat → Prop) (w w' : World) : Prop := Below 0 w w' ∧ ∀ k, k < w.heap.size → ¬ S k → w'.heap[k]? = w.heap[k]?
theorem Sav.size {S : Nat → Prop} {w w' : World} (h : Sav S w w') : w.heap.size ≤ w'.heap.size := h.1.size
theorem Sav.refl (S : Nat → Prop) (w : World) : Sav S w w := ⟨Below.refl _ _, fun _ _ _ => rfl⟩
theorem Sav.trans {S : Nat → Prop} {a b c : World} (h : Sav S a b) (k : Sav S b c) : Sav S a c :=
  ⟨h.1.trans k.1, fun i hi hs => (k.2 i (Nat.lt_of_lt_of_le hi h.size) hs).trans (h.2 i hi hs)⟩
theorem Sav.of_below {S : Nat → Prop} {w w' : World} (h : Below w.heap.size w w') : Sav S w w' := ⟨⟨h.os, h.tape, h.output, h.size, fun _ h => absurd h (Nat.not_lt_zero _)⟩, fun k hk _ => h.block k hk⟩
theorem Sav.alloc {S : Nat → Prop} {a w : World} (h : Sav S a w) (o : Obj) : Sav S a (w.alloc o) := h.trans (.of_below ((Below.refl _ w).alloc (Nat.le_refl _) o))
theorem Sav.set {S : Nat → Prop} {a w : World} (h : Sav S a w) {x : Addr} (hx : S x.block) (v : Value) : Sav S a (w.setCell x v) :=
  h.trans ⟨(Below.refl 0 w).setCell (Nat.zero_le _) v, fun _ _ hs => Below.heap_setCell _ _ _ _ (fun e => hs (e ▸ hx))⟩
theorem Sav.setNew {S : Nat → Prop} {a w : World} (h : Sav S a w) {x : Addr} (hx : a.heap.size ≤ x.block) (v : Value) : Sav S a (w.setCell x v) :=
  ⟨h.1.trans ((Below.refl 0 w).setCell (Nat.zero_le _) v), fun _ hk hs => (Below.heap_setCell _ _ _ _ (by omega)).trans (h.2 _ hk hs)⟩
theorem Sav.below {S : Nat → Prop} {w w' : World} {B : Nat} (h : Sav S w w') (hB : B ≤ w.heap.size) (hs : ∀ k, S k → B ≤ k) : Below B w w' :=
  ⟨h.1.os, h.1.tape, h.1.output, h.size, fun k hk => h.2 k (by omega) (fun s => by have := hs k s; omega)⟩
theorem Sav.mono {S S' : Nat → Prop} {w w' : World} (h : Sav S w w') (hs : ∀ k, k < w.heap.size → S k → S' k) : Sav S' w w' := ⟨h.1, fun _ hk h' => h.2 _ hk fun s => h' (hs _ hk s)⟩
/-- What new blocks do is nobody's matter: a set may hold blocks that were not there. -/
theorem Sav.box {S : Nat → Prop} {w w' : World} {b : Nat} {t : TypeId} {v : Value} (h : Sav S w w') (hb : Boxed w b t v) (hs : ¬ S b) : Boxed w' b t v := (h.2 b hb.lt hs).trans hb
theorem Sav.cell {S : Nat → Prop} {w w' : World} {a : Addr} {v : Value} (h : Sav S w w') (hc : w.cell? a = some v) (hs : ¬ S a.block) : w'.cell? a = some v := by
  have := h.2 a.block (cell_lt hc) hs
  unfold World.cell? at hc ⊢; rw [this]; exact hc

theorem add_block (a : Addr) (n : Nat) : (a.add n).block = a.block := by unfold Addr.add; split <;> rfl
/-- The twigs' cells. -/
def TreeAt (w : World) (pa : Option Addr) (B : Nat) (T : List Tw) : Prop := ∀ (k : Nat) (x : Tw), T[k]? = some x → ∃ a, pa = some a ∧ a.block < B ∧
  w.cell? (a.add (k * 4)) = some (.int .u8 x.op) ∧ w.cell? ⟨(a.add (k * 4)).block, (a.add (k * 4)).off + 1, none⟩ = some (.int .i64 x.kids) ∧ w.cell? ⟨(a.add (k * 4)).block, (a.add (k * 4)).off + 2, none⟩ = some (.int .i64 x.num) ∧ w.cell? ⟨(a.add (k * 4)).block, (a.add (k * 4)).off + 3, none⟩ = some (.string x.text)
theorem TreeAt.sav {S : Nat → Prop} {w w' : World} {pa : Option Addr} {B : Nat} {T : List Tw} (h : TreeAt w pa B T) (hs : Sav S w w') (hB : ∀ k, S k → B ≤ k) : TreeAt w' pa B T := fun k x hx => by
  obtain ⟨a, ha, hb, h0, h1, h2, h3⟩ := h k x hx
  have hn : ¬ S (a.add (k * 4)).block := fun s => by have := hB _ s; rw [add_block] at this; omega
  exact ⟨a, ha, hb, hs.cell h0 hn, hs.cell h1 hn, hs.cell h2 hn, hs.cell h3 hn⟩
end Go.Proofs.Ytkpgnopimnamfaa
