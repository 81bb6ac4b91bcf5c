/- The base of the walks: a law for the store of a complex number, and small words on worlds and on values of one node. -/
import Derived.Test.YtibalalijfdkoaaRows
import Derived.WalkKit
import Derived.ProofKit
import Derived.OpenShut
import Derived.Below
import Derived.Outline
import Derived.WalkLawsBesides
import Derived.WalkSpells
import Derived.Laws.EntriesVeiled
import Derived.Laws.Cover3
import Derived.Lib.Hide
import Derived.Handy
import Derived.BigQuiet
import Derived.Deep.QuietTactic
import Derived.Deep.RegionHeld3
import Derived.RangeFuncNested
import Derived.RangeFuncBound
import Derived.RangeFuncCalls
import Derived.RangeFuncLeaves
import Derived.Shelf.Abstract
import Derived.Shelf.RegionOpen
import Derived.OwnWalkIn
import Derived.TacticsInMore
import Derived.LoopNIn
import Derived.LoopIn
namespace Go
@[go_sem] theorem run_store_complex {P : Program} {w : World} {a : Addr} {m : Mode} (k : FloatKind) (x y : Nat) : (store a (.complex k x y) m).run P w = stored P w a (.complex k x y) m := run_store P w a _ m rfl
end Go
namespace Go.Proofs.Ytibalalijfdkoaa
open Go.RowKit

/-- A node of the values that are met here: no parts. -/
abbrev nd (k i : Int) (s : ByteArray) (re im : Nat) : Array Value := #[.int .u8 k, .int .i64 0, .int .i64 i, .string s, .complex .f64 re im]
/-- Block b holds just that node. -/
def IsN (w : World) (b : Nat) (k i : Int) (s : ByteArray) (re im : Nat) : Prop := w.heap[b]? = some (.cells (nd k i s re im) 41 (0, 0))

theorem IsN.lt {w : World} {b : Nat} {k i : Int} {s : ByteArray} {re im : Nat} (h : IsN w b k i s re im) : b < w.heap.size := (Array.getElem?_eq_some_iff.1 h).1
theorem IsN.below {B : Nat} {w w' : World} {b : Nat} {k i : Int} {s : ByteArray} {re im : Nat} (h : IsN w b k i s re im) (hb : Below B w w') (hB : b < B) : IsN w' b k i s re im := (hb.block b hB).trans h
theorem IsN.up {w w' : World} {b : Nat} {k i : Int} {s : ByteArray} {re im : Nat} (h : IsN w b k i s re im) (hb : Below w.heap.size w w') : IsN w' b k i s re im := h.below hb h.lt
theorem IsN.new (w : World) (k i : Int) (s : ByteArray) (re im : Nat) : IsN (w.alloc (.cells (nd k i s re im) 41)) w.heap.size k i s re im := World.alloc_heap_new w _
theorem IsN.new' {w : World} {b : Nat} (k i : Int) (s : ByteArray) (re im : Nat) (h : b = w.heap.size) : IsN (w.alloc (.cells (nd k i s re im) 41)) b k i s re im := by subst h; exact IsN.new ..
theorem IsN.cells {w : World} {b : Nat} {k i : Int} {s : ByteArray} {re im : Nat} (h : IsN w b k i s re im) :
    w.cell? ⟨b, 0, none⟩ = some (.int .u8 k) ∧ w.cell? ⟨b, 1, none⟩ = some (.int .i64 0) ∧ w.cell? ⟨b, 2, none⟩ = some (.int .i64 i) ∧ w.cell? ⟨b, 3, none⟩ = some (.string s) ∧ w.cell? ⟨b, 4, none⟩ = some (.complex .f64 re im) := by
  have h' := h
  unfold IsN at h'
  simp [World.cell?, h']

/-- A call that makes a value: of one node, in a block of its own. -/
def Makes (k i : Int) (s : ByteArray) (re im : Nat) (w : World) (e : Ending) (w' : World) : Prop :=
  ∃ b, e = .returned (.slice (some ⟨b, 0, none⟩) 1 1) ∧ IsN w' b k i s re im ∧ w.heap.size ≤ b ∧ Below w.heap.size w w'
/-- The same, beside an error's number. -/
def MakesE (k i : Int) (s : ByteArray) (re im : Nat) (w : World) (e : Ending) (w' : World) : Prop :=
  ∃ b, e = .returned (.tuple #[.slice (some ⟨b, 0, none⟩) 1 1, .int .i64 0]) ∧ IsN w' b k i s re im ∧ w.heap.size ≤ b ∧ Below w.heap.size w w'
end Go.Proofs.Ytibalalijfdkoaa
