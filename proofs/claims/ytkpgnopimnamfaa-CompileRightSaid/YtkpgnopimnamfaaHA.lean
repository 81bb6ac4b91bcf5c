/- Maps from int to int; the order of things; the heap in memory and lay. -/
import Derived.Test.YtkpgnopimnamfaaA3
import Derived.StillTailTactics
import Derived.Deep.QuietTactic
import Derived.Defers
import Derived.Deep.AppendLies
import Derived.Deep.RegionLaw
namespace Go.Proofs.Ytkpgnopimnamfaa
open Go.ChangeShapes Go.WideShapes Go.ChangeAt Go.RowKit Go.MapKept
theorem kind_i64 : Kind (.int .i64) (fun a : Int => Value.int .i64 a) := ⟨fun a => rfl, fun a b => by simp [Instr.sameNow]; rfl⟩
abbrev keyI : Int → Value := fun a => Value.int .i64 a
section
set_option linter.unusedSectionVars false
variable {K : Type} [DecidableEq K]
/-- The first value at a key is another one. -/
def upd (L : List (K × Value)) (k : K) (v : Value) : List (K × Value) := match L with
  | [] => []
  | p :: L => if p.1 = k then (p.1, v) :: L else p :: upd L k v
theorem lk_upd (L : List (K × Value)) (k : K) (v : Value) (h : (lk L k).isSome = true) : lk (upd L k v) k = some v := by
  induction L with
  | nil => simp [lk] at h
  | cons p L ih =>
    unfold upd
    by_cases hp : p.1 = k
    · rw [if_pos hp]; simp [lk, hp]
    · rw [if_neg hp]
      have e : ∀ M : List (K × Value), lk (p :: M) k = lk M k := fun M => by simp [lk, hp]
      rw [e] at h ⊢
      exact ih h
theorem find_upd {d : TypeDesc} {kv : K → Value} (hk : Kind d kv) (k : K) (v : Value) : ∀ (es : List MapEntry) (L : List (K × Value)) (i : Nat), es.map (fun e => (e.key, e.val)) = L.map (fun p => (kv p.1, p.2)) → (lk L k).isSome = true →
    ∃ j v0, Instr.findNow d (kv k) es i = some (some (i + j, v0)) ∧ j < es.length ∧ (es[j]?).map (·.key) = some (kv k) ∧ ∀ f : MapEntry → MapEntry, (∀ e, (f e).key = kv k ∧ (f e).val = v) → (es.modify j f).map (fun e => (e.key, e.val)) = (upd L k v).map fun p => (kv p.1, p.2)
  | [], L, i, h, hs => by
    cases L with
    | nil => simp [lk] at hs
    | cons p L => simp at h
  | e :: es, [], i, h, hs => by simp at h
  | e :: es, (a, u) :: L, i, h, hs => by
    simp only [List.map_cons, List.cons.injEq, Prod.mk.injEq] at h
    obtain ⟨⟨h1, h2⟩, h3⟩ := h
    by_cases hka : k = a
    · subst hka
      refine ⟨0, e.val, ?_, by simp, by simp [h1], fun f hf => ?_⟩
      · simp [Instr.findNow, h1, hk.same]
      · simp [upd, h3, hf]
    · have hl : lk ((a, u) :: L) k = lk L k := by simp [lk, Ne.symm hka]
      rw [hl] at hs
      obtain ⟨j, v0, hj, hlt, hkey, hr⟩ := find_upd hk k v es L (i + 1) h3 hs
      refine ⟨j + 1, v0, ?_, by simpa using hlt, by simpa using hkey, fun f hf => ?_⟩
      · simp only [Instr.findNow, h1, hk.same, decide_eq_false hka, hj]
        congr 2; congr 1; omega
      · simp only [List.modify_succ_cons, List.map_cons, hr f hf, h1, h2, upd, if_neg (Ne.symm hka)]
end
section
variable {P : Program} {t k e : TypeId} {d : TypeDesc} {K : Type} [DecidableEq K] {kv : K → Value}
theorem set_run (hd : P.underlying k = some d) (ht : P.underlying t = some (.map k e)) (hk : Kind d kv) {w : World} {H : Nat} {L : List (K × Value)} (hM : MapAt kv w H L) (x : K) (v : Value)
    (hst : ∀ w, (Instr.keyThatStays (kv x) (kv x)).run P w = .ok (kv x) w) :
    ∃ o L', (Instr.mapUpdate t (.map (some H)) (kv x) v).run P w = .ok () (setB w H o) ∧ MapAt kv (setB w H o) H L' ∧ lk L' x = some v := by
  cases hx : lk L x with
  | none =>
    obtain ⟨o, h1, h2⟩ := put_run hd ht hk hM x v hx
    exact ⟨o, _, h1, h2, by rw [lk_snoc _ _ _ _ hx, if_pos rfl]⟩
  | some u =>
    obtain ⟨es, c, hb, hm⟩ := hM
    obtain ⟨j, v0, hj, hlt, hkey, hr⟩ := find_upd hk x v es.toList L 0 hm (by rw [hx]; rfl)
    have hf := run_findKey (w := w) hd hj
    have hc : ∀ em, (Instr.checkKey em 10000 k (kv x)).run P w = .ok () w := fun em => run_checkKey hd (hk.key x) em 9999
    have hkey' : ((es[0 + j]?).map (·.key)).getD (kv x) = kv x := by
      rw [Nat.zero_add]
      rw [Array.getElem?_toList] at hkey
      rw [hkey]; rfl
    refine ⟨.map (es.modify (0 + j) fun e => { e with key := kv x, val := v }) c, upd L x v, ?_, ⟨_, _, setB_eq _ hb, ?_⟩, lk_upd L x v (by rw [hx]; rfl)⟩
    · simp only [Instr.mapUpdate, Sem.run_bind, run_underlying ht, Result.andThen_ok]
      simp only [Sem.run_bind, _root_.Go.MapKept.run_getObj_map hb, Result.andThen_ok, hc, hf, hkey', hst, _root_.Go.MapKept.run_setObj_map _ hb]
      rfl
    · rw [Nat.zero_add, Array.toList_modify]
      exact hr _ fun e => ⟨rfl, rfl⟩
theorem wpList_set (w : World) {ops : Array Oper} {rest : List Oper} {o : Oper} {a : Act} {Q : Exit → Act → World → Prop} (hg : o.guard = none) (m x v : Operand) (hop : o.op = Op.mapUpdate t m x v)
    (hd : P.underlying k = some d) (ht : P.underlying t = some (.map k e)) (hk : Kind d kv) (H : Nat) (L : List (K × Value)) (hm : a.eval m = .map (some H)) (hM : MapAt kv w H L) (key : K) (val : Value) (hst : ∀ w, (Instr.keyThatStays (kv key) (kv key)).run P w = .ok (kv key) w) (hx : a.eval x = kv key) (hv : a.eval v = val)
    (hK : ∀ w' L', MapAt kv w' H L' → lk L' key = some val → Upd H w w' → wpList P ops Q rest (a.put o.dst undef) w') : wpList P ops Q (o :: rest) a w := by
  refine wpList_plain hg fun K' hK' => ?_
  obtain ⟨ob, L', hrun, hM', hl⟩ := set_run hd ht hk hM key val hst
  unfold Oper.wp
  simp [execOp, hop, hm, hx, hv, hrun, Result.andThen]
  exact hK' _ _ (hK _ L' hM' hl ⟨ob, rfl⟩)
/-- A value that is there is looked up. -/
theorem get_run (hd : P.underlying k = some d) (ht : P.underlying t = some (.map k e)) (hk : Kind d kv) {w : World} {H : Nat} {L : List (K × Value)} (hM : MapAt kv w H L) (x : K) {v : Value} (hx : lk L x = some v) :
    (Instr.lookup t (.map (some H)) (kv x) false).run P w = .ok v w := by
  obtain ⟨es, c, hb, hm⟩ := hM
  obtain ⟨j, hj, _⟩ := find_run hk x es.toList L 0 hm
  have hf := run_findKey (w := w) hd hj
  have hc : ∀ em, (Instr.checkKey em 10000 k (kv x)).run P w = .ok () w := fun em => run_checkKey hd (hk.key x) em 9999
  simp only [Instr.lookup, Sem.run_bind, run_underlying ht, Result.andThen_ok]
  simp only [Sem.run_bind, _root_.Go.MapKept.run_getObj_map hb, Result.andThen_ok, Sem.run_pure, hc, hf, hx]
  rfl
end
theorem stays_i64 (a : Int) (w : World) : (Instr.keyThatStays (keyI a) (keyI a)).run Try.prog w = .ok (keyI a) w := by
  have h : Instr.sameBits 10000 (keyI a) (keyI a) = true := by simp [Instr.sameBits]
  unfold Instr.keyThatStays
  rw [if_pos h]
  rfl
theorem und81 : Try.prog.underlying 81 = some (.map 3 3) := by kernel_rfl
theorem und3 : Try.prog.underlying 3 = some (.int .i64) := by kernel_rfl
end Go.Proofs.Ytkpgnopimnamfaa
namespace Go.Proofs.Ytkpgnopimnamfaa
open Go.ChangeShapes Go.WideShapes Go.ChangeAt Go.RowKit
def cmpI (a b : Int) : Int := if a < b then -1 else if b < a then 1 else 0
theorem compare64_any (a b : Int) (w : World) : Calls Try.prog 60 #[.int .i64 a, .int .i64 b] w fun e w' => e = .returned (.int .i64 (cmpI a b)) ∧ w = w' := by
  by_cases h1 : a < b
  · have E : Hid (cmpI a b = -1) := Lib.hid (by unfold cmpI; rw [if_pos h1])
    go_enter Try.func60, Try.ntmps60
    go_wp2
    go_ret
    exact ⟨by rw [E.out]; rfl, rfl⟩
  by_cases h2 : b < a
  · have E : Hid (cmpI a b = 1) := Lib.hid (by unfold cmpI; rw [if_neg h1, if_pos h2])
    go_enter Try.func60, Try.ntmps60
    go_wp2
    go_ret
    exact ⟨by rw [E.out]; rfl, rfl⟩
  have E : Hid (cmpI a b = 0) := Lib.hid (by unfold cmpI; rw [if_neg h1, if_neg h2])
  go_enter Try.func60, Try.ntmps60
  go_wp2
  go_ret
  exact ⟨by rw [E.out]; rfl, rfl⟩
theorem compareInt_any (a b : Int) (w : World) : Calls Try.prog 61 #[.int .i64 a, .int .i64 b] w fun e w' => e = .returned (.int .i64 (cmpI a b)) ∧ w = w' := by
  by_cases h1 : a < b
  · have E : Hid (cmpI a b = -1) := Lib.hid (by unfold cmpI; rw [if_pos h1])
    go_enter Try.func61, Try.ntmps61
    go_wp2
    go_ret
    exact ⟨by rw [E.out]; rfl, rfl⟩
  by_cases h2 : b < a
  · have E : Hid (cmpI a b = 1) := Lib.hid (by unfold cmpI; rw [if_neg h1, if_pos h2])
    go_enter Try.func61, Try.ntmps61
    go_wp2
    go_ret
    exact ⟨by rw [E.out]; rfl, rfl⟩
  have E : Hid (cmpI a b = 0) := Lib.hid (by unfold cmpI; rw [if_neg h1, if_neg h2])
  go_enter Try.func61, Try.ntmps61
  go_wp2
  go_ret
  exact ⟨by rw [E.out]; rfl, rfl⟩
def orI (a b : Int) : Int := if a = 0 then b else a
theorem or_any (g cap : Nat) (a b : Int) (w : World) (h0 : w.cell? ⟨g, 0, none⟩ = some (.int .i64 a)) (h1 : w.cell? ⟨g, 1, none⟩ = some (.int .i64 b)) :
    Calls Try.prog 59 #[.slice (some ⟨g, 0, none⟩) 2 cap] w fun e w' => e = .returned (.int .i64 (orI a b)) ∧ w = w' := by
  by_cases ha : a = 0
  · subst ha
    have E : Hid (orI 0 b = b) := Lib.hid rfl
    go_enter Try.func59, Try.ntmps59
    go_wp2
    go_loop [8] (fun s8 => ∃ k : Nat, k ≤ 2 ∧ s8 = .int .i64 k ∧ (k = 2 → b = 0)) (fun s8 => 2 - (intOf s8).toNat)
    case atStart => exact ⟨0, by omega, rfl, by omega⟩
    case round =>
      obtain ⟨k, hk, rfl, hb⟩ := hrel
      have HB := Lib.hid hb; clear hb
      rcases (by omega : k = 0 ∨ k = 1 ∨ k = 2) with rfl | rfl | rfl
      · go_wp2
        go_round
        case rel => exact ⟨1, by omega, by go_num, by omega⟩
        case measure => simp [intOf]
      · by_cases hb : b = 0
        · subst hb
          go_wp2
          go_round
          case rel => exact ⟨2, by omega, by go_num, fun _ => by first | rfl | trivial⟩
          case measure => simp [intOf]
        · have hbb : (b != 0) = true := by simp [hb]
          go_wp2
          go_ret
          exact ⟨by rw [E.out]; rfl, rfl⟩
      · go_wp2
        go_ret
        refine ⟨?_, rfl⟩
        have := HB.out (by first | rfl | trivial)
        rw [E.out, this]; rfl
  · have E : Hid (orI a b = a) := Lib.hid (if_neg ha)
    have hbb : (a != 0) = true := by simp [ha]
    go_enter Try.func59, Try.ntmps59
    go_wp2
    go_loop [8] (fun s8 => s8 = .int .i64 0) (fun _ => 0)
    case atStart => rfl
    case round =>
      subst hrel
      go_wp2
      go_ret
      exact ⟨by rw [E.out]; rfl, rfl⟩
/-- A thing: its key, its number, its value. -/
abbrev Th : Type := Int × Int × Int
def aheadI (x y : Th) : Int := orI (cmpI x.1 y.1) (cmpI x.2.1 y.2.1)
theorem qs {P : Program} {f : FuncId} {args : Array Value} {w : World} {v : Value} (h : Calls P f args w fun e w' => e = .returned v ∧ w = w') : Calls P f args w fun e w' => e = .returned v ∧ w' = w :=
  h.mono fun _ _ ⟨h1, h2⟩ => ⟨h1, h2.symm⟩
set_option maxRecDepth 100000 in
set_option maxHeartbeats 1000000 in
theorem ahead_any (x0 x1 x2 y0 y1 y2 : Int) (w : World) : Calls Try.prog 58 #[.agg #[.int .i64 x0, .int .i64 x1, .int .i64 x2], .agg #[.int .i64 y0, .int .i64 y1, .int .i64 y2]] w fun e w' => e = .returned (.int .i64 (aheadI (x0, x1, x2) (y0, y1, y2))) ∧ Below w.heap.size w w' := by
  have E : Hid (aheadI (x0, x1, x2) (y0, y1, y2) = orI (cmpI x0 y0) (cmpI x1 y1)) := Lib.hid rfl
  go_enter Try.func58, Try.ntmps58
  go_wp2_with fail
  have b1 : ((w.alloc (.cells #[.int .i64 x0, .int .i64 x1, .int .i64 x2] 91)).alloc (.cells #[.int .i64 y0, .int .i64 y1, .int .i64 y2] 91)).heap[w.heap.size]? = some (.cells #[.int .i64 x0, .int .i64 x1, .int .i64 x2] 91 (0, 0)) := ((MapKept.heap_alloc _ _).2 _ (by simp)).trans (MapKept.heap_alloc w _).1
  have b2 : ((w.alloc (.cells #[.int .i64 x0, .int .i64 x1, .int .i64 x2] 91)).alloc (.cells #[.int .i64 y0, .int .i64 y1, .int .i64 y2] 91)).heap[w.heap.size + 1]? = some (.cells #[.int .i64 y0, .int .i64 y1, .int .i64 y2] 91 (0, 0)) := by
    have := (MapKept.heap_alloc (w.alloc (.cells #[.int .i64 x0, .int .i64 x1, .int .i64 x2] 91)) (.cells #[.int .i64 y0, .int .i64 y1, .int .i64 y2] 91)).1
    rwa [World.size_alloc] at this
  have HB : Hid (Below w.heap.size w ((w.alloc (.cells #[.int .i64 x0, .int .i64 x1, .int .i64 x2] 91)).alloc (.cells #[.int .i64 y0, .int .i64 y1, .int .i64 y2] 91))) := Lib.hid (((Below.refl _ w).alloc (Nat.le_refl _) _).alloc (by simp) _)
  obtain ⟨wc, hwc⟩ : ∃ wc, (w.alloc (.cells #[.int .i64 x0, .int .i64 x1, .int .i64 x2] 91)).alloc (.cells #[.int .i64 y0, .int .i64 y1, .int .i64 y2] 91) = wc := ⟨_, rfl⟩
  rw [hwc] at b1 b2 HB ⊢
  clear hwc
  have c0 : wc.cell? ⟨w.heap.size, 0, none⟩ = some (.int .i64 x0) := (cell_block b1).trans rfl
  have c1 : wc.cell? ⟨w.heap.size, 1, none⟩ = some (.int .i64 x1) := (cell_block b1).trans rfl
  have d0 : wc.cell? ⟨w.heap.size + 1, 0, none⟩ = some (.int .i64 y0) := (cell_block b2).trans rfl
  have d1 : wc.cell? ⟨w.heap.size + 1, 1, none⟩ = some (.int .i64 y1) := (cell_block b2).trans rfl
  clear b1 b2
  refine wp_region_still_tail 10 (by kernel_rfl) (by kernel_rfl) ?_
  simp only [List.take_succ_cons, List.take_zero, List.drop_succ_cons, List.drop_zero]
  repeat still_step
  still_call (qs (compare64_any _ _ _))
  repeat still_step
  still_call (qs (compareInt_any _ _ _))
  repeat still_step
  refine wpStill_nil ?_
  change wpList _ _ _ _ _ wc.drew
  go_wp2_with fail
  refine (or_any _ 2 (cmpI x0 y0) (cmpI x1 y1) _ (by go_simp) (by go_simp)).mono ?_
  rintro e w' ⟨rfl, rfl⟩
  go_wp2_with fail
  go_ret
  rw [E.out]
  exact ⟨rfl, (HB.out.alloc HB.out.size _).drew⟩
end Go.Proofs.Ytkpgnopimnamfaa
namespace Go.Proofs.Ytkpgnopimnamfaa
open Go.ChangeShapes Go.WideShapes Go.ChangeAt Go.RowKit
def thOf (x : Th) : List Value := [.int .i64 x.1, .int .i64 x.2.1, .int .i64 x.2.2]
def thCells (X : List Th) : List Value := X.flatMap thOf
theorem thCells_len (X : List Th) : (thCells X).length = X.length * 3 := by
  induction X with
  | nil => rfl
  | cons x X ih => simp only [thCells, List.flatMap_cons, List.length_append, List.length_cons] at *; rw [ih]; simp [thOf]; omega
theorem thCells_at (X : List Th) : ∀ (k : Nat) (x : Th), X[k]? = some x → ∀ j, j < 3 → (thCells X)[k * 3 + j]? = (thOf x)[j]? := by
  induction X with
  | nil => intro k x h; simp at h
  | cons y X ih =>
    intro k x h j hj
    have e : thCells (y :: X) = thOf y ++ thCells X := by simp [thCells]
    have l : (thOf y).length = 3 := rfl
    rw [e]
    cases k with
    | zero =>
      simp at h; subst h
      rw [List.getElem?_append_left (by omega)]; simp
    | succ k =>
      rw [List.getElem?_append_right (by omega), l]
      have : (k + 1) * 3 + j - 3 = k * 3 + j := by omega
      rw [this]
      exact ih k x (by simpa using h) j hj
theorem thCells_set (X : List Th) : ∀ (k : Nat) (x : Th), k < X.length → (((thCells X).set (k * 3) (.int .i64 x.1)).set (k * 3 + 1) (.int .i64 x.2.1)).set (k * 3 + 2) (.int .i64 x.2.2) = thCells (X.set k x) := by
  induction X with
  | nil => intro k x h; simp at h
  | cons y X ih =>
    intro k x h
    have e : ∀ z Y, thCells (z :: Y) = thOf z ++ thCells Y := fun z Y => by simp [thCells]
    have l : (thOf y).length = 3 := rfl
    rw [e]
    cases k with
    | zero => simp [e, thOf]
    | succ k =>
      have e0 : (k + 1) * 3 - 3 = k * 3 := by omega
      have e1 : (k + 1) * 3 + 1 - 3 = k * 3 + 1 := by omega
      have e2 : (k + 1) * 3 + 2 - 3 = k * 3 + 2 := by omega
      rw [List.set_append_right _ _ (by omega), List.set_append_right _ _ (by omega), List.set_append_right _ _ (by omega), l, e0, e1, e2, ih k x (by simpa using h)]
      simp [e]
/-- A heap in the world: its things, what its map holds, its next number. -/
def HpO (w : World) (B hp : Nat) (ao : Option Addr) (cap H : Nat) (X : List Th) (next : Int) (L : List (Int × Value)) : Prop :=
  w.heap[hp]? = some (.cells #[.bool true, .slice ao X.length cap, .map (some H), .int .i64 next] 84 (0, 0)) ∧ w.ownsRow B 91 3 (.slice ao X.length cap) X.length (thCells X) ∧ MapAt keyI w H L
/-- But a row and a map all is as it was. -/
def Fr (B g : Nat) (w w' : World) : Prop := Below B w w' ∧ ∀ (k : Nat) (c : Array Value) (t : TypeId) (fz : Nat × Nat), w.heap[k]? = some (.cells c t fz) → k ≠ g → w'.heap[k]? = some (.cells c t fz)
section
variable {B g : Nat} {w w' w'' : World}
theorem Fr.refl (B g : Nat) (w : World) : Fr B g w w := ⟨Below.refl _ _, fun _ _ _ _ h _ => h⟩
theorem Fr.trans (h : Fr B g w w') (k : Fr B g w' w'') : Fr B g w w'' := ⟨h.1.trans k.1, fun i c t fz hi h1 => k.2 i c t fz (h.2 i c t fz hi h1) h1⟩
theorem Fr.size (h : Fr B g w w') : w.heap.size ≤ w'.heap.size := h.1.size
theorem Fr.of_below (h : Below w.heap.size w w') (hB : B ≤ w.heap.size) : Fr B g w w' := ⟨h.mono hB, fun k _ _ _ hk _ => (h.block k (Array.getElem?_eq_some_iff.1 hk).1).trans hk⟩
theorem Fr.alloc (h : Fr B g w w') (hB : B ≤ w.heap.size) (o : Obj) : Fr B g w (w'.alloc o) := h.trans (.of_below ((Below.refl _ _).alloc (Nat.le_refl _) o) (Nat.le_trans hB h.size))
theorem Fr.set (h : Fr B g w w') (hB : B ≤ g) (o : Nat) (v : Value) : Fr B g w (w'.setCell ⟨g, o, none⟩ v) :=
  h.trans ⟨(Below.refl B w').setCell hB v, fun _ _ _ _ hk h1 => (Below.heap_setCell _ _ _ _ h1).trans hk⟩
theorem Fr.drewN (h : Fr B g w w') (n : Nat) : Fr B g w (w'.drewN n) := ⟨⟨h.1.os, h.1.tape, h.1.output, h.1.size, h.1.block⟩, h.2⟩
theorem Fr.drew (h : Fr B g w w') : Fr B g w w'.drew := ⟨⟨h.1.os, h.1.tape, h.1.output, h.1.size, h.1.block⟩, h.2⟩
theorem Fr.upd {H : Nat} {kv : Int → Value} {L : List (Int × Value)} (h : Fr B g w w') (hu : Upd H w' w'') (hB : B ≤ H) (hm : MapAt kv w' H L) : Fr B g w w'' := by
  obtain ⟨es, c, hm, _⟩ := hm
  exact h.trans ⟨hu.below (Below.refl _ _) hB, fun k c t fz hk _ => (hu.block (fun e => by subst e; rw [hm] at hk; cases hk)).trans hk⟩
theorem Fr.heap (h : Fr B g w w') {k : Nat} {c : Array Value} {t : TypeId} {fz : Nat × Nat} (hk : w.heap[k]? = some (.cells c t fz)) (hne : k ≠ g) : w'.heap[k]? = some (.cells c t fz) := h.2 k c t fz hk hne
end
theorem own_updm {w w' : World} {H B n sz : Nat} {ty : TypeId} {v : Value} {xs : List Value} {kv : Int → Value} {L : List (Int × Value)} (h : w.ownsRow B ty sz v n xs) (hu : Upd H w w') (hm : MapAt kv w H L) : w'.ownsRow B ty sz v n xs := by
  refine ⟨h.1, ?_⟩
  obtain ⟨es, c, hm, _⟩ := hm
  rcases h.2 with hn | ⟨g', cap, cur, e, hb, hgg, r⟩
  · exact .inl hn
  · exact .inr ⟨g', cap, cur, e, hb, (hu.block (fun e2 => by rw [e2, hm] at hgg; cases hgg)).trans hgg, r⟩
def LayPost (w : World) (B hp g cap H : Nat) (X : List Th) (next : Int) (i : Nat) (x : Th) (e : Ending) (w' : World) : Prop :=
  e = .returned (.tuple #[]) ∧ (∃ L', HpO w' B hp (some ⟨g, 0, none⟩) cap H (X.set i x) next L' ∧ lk L' x.2.1 = some (.int .i64 i)) ∧ Fr B g w w'
theorem setc_at {w : World} {G o : Nat} {c : Array Value} {t : TypeId} {fz : Nat × Nat} (hG : w.heap[G]? = some (.cells c t fz)) (v : Value) : (w.setCell ⟨G, o, none⟩ v).heap[G]? = some (.cells (c.setIfInBounds o v) t fz) := by
  have hlt := (Array.getElem?_eq_some_iff.1 hG).1
  have e := (Array.getElem?_eq_some_iff.1 hG).2
  simp [World.setCell, hlt, Array.getElem_modify, e]
theorem own_set3 {w : World} {B g cap i : Nat} {X : List Th} {cur : Array Value} (hg : w.heap[g]? = some (.cells cur 91 (0, 0))) (h : w.ownsRow B 91 3 (.slice (some ⟨g, 0, none⟩) X.length cap) X.length (thCells X)) (hi : i < X.length) (x0 x1 x2 : Int) :
    (((w.setCell ⟨g, i * 3, none⟩ (.int .i64 x0)).setCell ⟨g, i * 3 + 1, none⟩ (.int .i64 x1)).setCell ⟨g, i * 3 + 2, none⟩ (.int .i64 x2)).ownsRow B 91 3 (.slice (some ⟨g, 0, none⟩) (X.set i (x0, x1, x2)).length cap) (X.set i (x0, x1, x2)).length (thCells (X.set i (x0, x1, x2))) := by
  rcases h.2 with ⟨e, _⟩ | ⟨g', cap', cur', e, hb, hg', hc, hm, hs, ht⟩
  · cases e
  · cases e
    rw [hg] at hg'
    cases hg'
    refine ⟨by rw [thCells_len], .inr ⟨g, cap, ((cur.setIfInBounds (i * 3) (.int .i64 x0)).setIfInBounds (i * 3 + 1) (.int .i64 x1)).setIfInBounds (i * 3 + 2) (.int .i64 x2), rfl, hb, setc_at (setc_at (setc_at hg _) _) _, by rw [List.length_set]; exact hc, hm, by simpa using hs, ?_⟩⟩
    rw [List.length_set, Array.toList_setIfInBounds, Array.toList_setIfInBounds, Array.toList_setIfInBounds, List.take_set, List.take_set, List.take_set, ht]
    exact thCells_set X i (x0, x1, x2) hi
set_option maxRecDepth 100000 in
set_option maxHeartbeats 1000000 in
theorem lay_any (w : World) (B hp g cap H : Nat) (X : List Th) (next : Int) (L : List (Int × Value)) (h : HpO w B hp (some ⟨g, 0, none⟩) cap H X next L) (hB : B ≤ H) (hX : X.length ≤ 10000) (i : Nat) (hi : i < X.length) (x0 x1 x2 : Int) :
    Calls Try.prog 56 #[.pointer (some ⟨hp, 0, none⟩), .int .i64 i, .agg #[.int .i64 x0, .int .i64 x1, .int .i64 x2]] w (LayPost w B hp g cap H X next i (x0, x1, x2)) := by
  obtain ⟨h1, h2, h3⟩ := h
  obtain ⟨cur, hb, hg, hc, hm, hcs, hct⟩ : ∃ cur, B ≤ g ∧ w.heap[g]? = some (.cells cur 91 (0, 0)) ∧ X.length ≤ cap ∧ cap ≤ maxLen ∧ cur.size = cap * 3 ∧ cur.toList.take (X.length * 3) = thCells X := by
    rcases h2.2 with ⟨e, _⟩ | ⟨g', cap', cur, e, hb, hg, hc, hm, hs, ht⟩
    · cases e
    · cases e; exact ⟨cur, hb, hg, hc, hm, hs, ht⟩
  have lh := (Array.getElem?_eq_some_iff.1 h1).1
  have lg := (Array.getElem?_eq_some_iff.1 hg).1
  have lm := h3.lt
  have p1 : w.cell? ⟨hp, 1, none⟩ = some (.slice (some ⟨g, 0, none⟩) X.length cap) := (cell_block h1).trans rfl
  have p2 : w.cell? ⟨hp, 2, none⟩ = some (.map (some H)) := (cell_block h1).trans rfl
  have hex : ∀ j, j < 3 → ∃ v, w.cell? ⟨g, i * 3 + j, none⟩ = some v := fun j hj => by
    rw [cell_block hg]; exact ⟨_, Array.getElem?_eq_getElem (by omega)⟩
  obtain ⟨v0, q0⟩ := hex 0 (by omega)
  obtain ⟨v1, q1⟩ := hex 1 (by omega)
  obtain ⟨v2, q2⟩ := hex 2 (by omega)
  have hfz : ∀ j, w.frozen? ⟨g, j, none⟩ = false := fun j => by unfold World.frozen?; rw [hg]; simp
  have f0 := hfz (i * 3)
  have f1 := hfz (i * 3 + 1)
  have f2 := hfz (i * 3 + 2)
  have hi' : (i : Int) < X.length := by omega
  have hi5 : i ≤ 10000 := by omega
  have hne : g ≠ hp := fun e => by rw [e, h1] at hg; cases hg
  have H1 := Lib.hid h1; have H2 := Lib.hid h2; have H3 := Lib.hid h3; have HG := Lib.hid hg; have HCS := Lib.hid hcs; have HCT := Lib.hid hct; have HC := Lib.hid hc
  clear h1 h2 h3 hg hcs hct hex hfz hm hc
  simp only [Nat.add_zero] at q0
  go_enter Try.func56, Try.ntmps56
  go_wp2_with fail
  have XB : Hid ((w.alloc (.cells #[.int .i64 x0, .int .i64 x1, .int .i64 x2] 91)).heap[w.heap.size]? = some (.cells #[.int .i64 x0, .int .i64 x1, .int .i64 x2] 91 (0, 0))) := Lib.hid (MapKept.heap_alloc w _).1
  have XF : Hid (Fr B g w (w.alloc (.cells #[.int .i64 x0, .int .i64 x1, .int .i64 x2] 91))) := Lib.hid ((Fr.refl B g w).alloc (by omega) _)
  have X2 := Lib.hid (H2.out.alloc (.cells #[.int .i64 x0, .int .i64 x1, .int .i64 x2] 91))
  have X3 := Lib.hid (H3.out.alloc (.cells #[.int .i64 x0, .int .i64 x1, .int .i64 x2] 91))
  have XG : Hid ((w.alloc (.cells #[.int .i64 x0, .int .i64 x1, .int .i64 x2] 91)).heap[g]? = some (.cells cur 91 (0, 0))) := Lib.hid (((MapKept.heap_alloc w _).2 _ lg).trans HG.out)
  have r1 : (w.alloc (.cells #[.int .i64 x0, .int .i64 x1, .int .i64 x2] 91)).cell? ⟨hp, 1, none⟩ = some (.slice (some ⟨g, 0, none⟩) X.length cap) := by go_simp
  have r2 : (w.alloc (.cells #[.int .i64 x0, .int .i64 x1, .int .i64 x2] 91)).cell? ⟨hp, 2, none⟩ = some (.map (some H)) := by go_simp
  have s0 : (w.alloc (.cells #[.int .i64 x0, .int .i64 x1, .int .i64 x2] 91)).cell? ⟨g, i * 3, none⟩ = some v0 := by go_simp
  have s1 : (w.alloc (.cells #[.int .i64 x0, .int .i64 x1, .int .i64 x2] 91)).cell? ⟨g, i * 3 + 1, none⟩ = some v1 := by go_simp
  have s2 : (w.alloc (.cells #[.int .i64 x0, .int .i64 x1, .int .i64 x2] 91)).cell? ⟨g, i * 3 + 2, none⟩ = some v2 := by go_simp
  have z0 : (w.alloc (.cells #[.int .i64 x0, .int .i64 x1, .int .i64 x2] 91)).frozen? ⟨g, i * 3, none⟩ = false := by go_simp
  have z1 : (w.alloc (.cells #[.int .i64 x0, .int .i64 x1, .int .i64 x2] 91)).frozen? ⟨g, i * 3 + 1, none⟩ = false := by go_simp
  have z2 : (w.alloc (.cells #[.int .i64 x0, .int .i64 x1, .int .i64 x2] 91)).frozen? ⟨g, i * 3 + 2, none⟩ = false := by go_simp
  obtain ⟨wc, hwc⟩ : ∃ wc, w.alloc (.cells #[.int .i64 x0, .int .i64 x1, .int .i64 x2] 91) = wc := ⟨_, rfl⟩
  rw [hwc] at XB XF X2 X3 XG r1 r2 s0 s1 s2 z0 z1 z2 ⊢
  clear hwc p1 p2 q0 q1 q2 f0 f1 f2
  have k0 : wc.cell? ⟨w.heap.size, 0, none⟩ = some (.int .i64 x0) := (cell_block XB.out).trans rfl
  have k1 : wc.cell? ⟨w.heap.size, 1, none⟩ = some (.int .i64 x1) := (cell_block XB.out).trans rfl
  have k2 : wc.cell? ⟨w.heap.size, 2, none⟩ = some (.int .i64 x2) := (cell_block XB.out).trans rfl
  have hgn : ¬ w.heap.size = g := by omega
  refine wp_region_still_tail 7 (by kernel_rfl) (by kernel_rfl) ?_
  simp only [List.take_succ_cons, List.take_zero, List.drop_succ_cons, List.drop_zero]
  repeat still_step
  refine wpStill_nil ?_
  change wpList _ _ _ _ _ wc.drew
  go_upto_region 2 with fail
  have W0 : Hid (HpO ((((wc.setCell ⟨g, i * 3, none⟩ (.int .i64 x0)).setCell ⟨g, i * 3 + 1, none⟩ (.int .i64 x1)).setCell ⟨g, i * 3 + 2, none⟩ (.int .i64 x2)).drew) B hp (some ⟨g, 0, none⟩) cap H (X.set i (x0, x1, x2)) next L) := Lib.hid (by
    have hgH : H ≠ g := fun e => by
      obtain ⟨es, c, hm, _⟩ := X3.out
      rw [e, XG.out] at hm; cases hm
    refine ⟨?_, own_set3 XG.out X2.out hi x0 x1 x2, (((X3.out.setCell (x := ⟨g, i * 3, none⟩) hgH _).setCell (x := ⟨g, i * 3 + 1, none⟩) hgH _).setCell (x := ⟨g, i * 3 + 2, none⟩) hgH _)⟩
    rw [List.length_set]
    exact ((((XF.out.set hb _ _).set hb _ _).set hb _ _)).heap H1.out (Ne.symm hne))
  have WF : Hid (Fr B g w ((((wc.setCell ⟨g, i * 3, none⟩ (.int .i64 x0)).setCell ⟨g, i * 3 + 1, none⟩ (.int .i64 x1)).setCell ⟨g, i * 3 + 2, none⟩ (.int .i64 x2)).drew)) := Lib.hid ((((XF.out.set hb _ _).set hb _ _).set hb _ _)).drew
  have WB : Hid (((((wc.setCell ⟨g, i * 3, none⟩ (.int .i64 x0)).setCell ⟨g, i * 3 + 1, none⟩ (.int .i64 x1)).setCell ⟨g, i * 3 + 2, none⟩ (.int .i64 x2)).drew).heap[w.heap.size]? = some (.cells #[.int .i64 x0, .int .i64 x1, .int .i64 x2] 91 (0, 0))) := Lib.hid ((((Fr.refl B g wc).set hb _ _).set hb _ _).set hb _ _ |>.heap XB.out (by omega))
  obtain ⟨wd, hwd⟩ : ∃ wd, (((wc.setCell ⟨g, i * 3, none⟩ (.int .i64 x0)).setCell ⟨g, i * 3 + 1, none⟩ (.int .i64 x1)).setCell ⟨g, i * 3 + 2, none⟩ (.int .i64 x2)).drew = wd := ⟨_, rfl⟩
  rw [hwd] at W0 WF WB ⊢
  clear hwd r1 r2 s0 s1 s2 z0 z1 z2 k0 k1 k2
  have r2 : wd.cell? ⟨hp, 2, none⟩ = some (.map (some H)) := (cell_block W0.out.1).trans rfl
  have k1 : wd.cell? ⟨w.heap.size, 1, none⟩ = some (.int .i64 x1) := (cell_block WB.out).trans rfl
  refine wp_region_still_tail 7 (by kernel_rfl) (by kernel_rfl) ?_
  simp only [List.take_succ_cons, List.take_zero, List.drop_succ_cons, List.drop_zero]
  repeat still_step
  refine wpStill_nil ?_
  change wpList _ _ _ _ _ wd.drew
  have WM : Hid (MapAt keyI wd.drew H L) := Lib.hid W0.out.2.2
  go_wp2_with (refine wpList_set _ rfl (.tmp 16) (.tmp 18) (.tmp 19) rfl und3 und81 kind_i64 H L rfl WM.out x1 (.int .i64 i) (stays_i64 x1) rfl rfl ?_; intro w2 L2 hM2 hL2 hU2)
  go_end0
  have hs := (Fr.refl B g wd.drew).upd hU2 hB WM.out
  refine ⟨rfl, ⟨L2, ⟨hs.heap W0.out.1 (Ne.symm hne), own_updm (w := wd.drew) W0.out.2.1 hU2 WM.out, hM2⟩, hL2⟩, WF.out.drew.trans hs⟩
end Go.Proofs.Ytkpgnopimnamfaa
