/- Maps as lists of keys and values: lookups, new keys, deletes. -/
import Derived.Test.YtkpgnopimnamfaaA2
namespace Go.Proofs.Ytkpgnopimnamfaa
open Go.ChangeShapes Go.WideShapes Go.ChangeAt Go.RowKit Go.MapKept

/-- A world in which one block is another. -/
def setB (w : World) (b : Nat) (o : Obj) : World := { w with heap := w.heap.setIfInBounds b o }
theorem setB_size (w : World) (b : Nat) (o : Obj) : (setB w b o).heap.size = w.heap.size := by simp [setB]
theorem setB_ne {w : World} {b c : Nat} (o : Obj) (h : c ≠ b) : (setB w b o).heap[c]? = w.heap[c]? := by
  show (w.heap.setIfInBounds b o)[c]? = _
  rw [Array.getElem?_setIfInBounds, if_neg (by omega)]
theorem setB_eq {w : World} {b : Nat} {o' : Obj} (o : Obj) (h : w.heap[b]? = some o') : (setB w b o).heap[b]? = some o := (heap_set h).1
theorem below_setB {B : Nat} {w0 w : World} {b : Nat} (h : Below B w0 w) (hb : B ≤ b) (o : Obj) : Below B w0 (setB w b o) :=
  h.trans ⟨rfl, rfl, rfl, by simp [setB], fun k hk => by
    show (w.heap.setIfInBounds b o)[k]? = _
    simp only [Array.getElem?_setIfInBounds]
    rw [if_neg (by omega)]⟩

/-- One block was written. -/
def Upd (b : Nat) (w w' : World) : Prop := ∃ o, w' = setB w b o
theorem Upd.size {b : Nat} {w w' : World} (h : Upd b w w') : w'.heap.size = w.heap.size := by obtain ⟨o, rfl⟩ := h; exact setB_size w b o
theorem Upd.block {b c : Nat} {w w' : World} (h : Upd b w w') (hc : c ≠ b) : w'.heap[c]? = w.heap[c]? := by obtain ⟨o, rfl⟩ := h; exact setB_ne o hc
theorem Upd.below {B b : Nat} {w0 w w' : World} (h : Upd b w w') (hb : Below B w0 w) (hB : B ≤ b) : Below B w0 w' := by obtain ⟨o, rfl⟩ := h; exact below_setB hb hB o
theorem Upd.cell {b : Nat} {w w' : World} (h : Upd b w w') {a : Addr} (hc : a.block ≠ b) : w'.cell? a = w.cell? a := by unfold World.cell?; rw [h.block hc]

set_option linter.unusedSectionVars false
variable {K : Type} [DecidableEq K]
/-- The first value at a key. -/
def lk (L : List (K × Value)) (k : K) : Option Value := (L.find? fun p => decide (p.1 = k)).map (·.2)
/-- Without the first entry of a key. -/
def rm (L : List (K × Value)) (k : K) : List (K × Value) := L.eraseP fun p => decide (p.1 = k)
def MapAt (kv : K → Value) (w : World) (H : Nat) (L : List (K × Value)) : Prop :=
  ∃ es clock, w.heap[H]? = some (.map es clock) ∧ es.toList.map (fun e => (e.key, e.val)) = L.map fun p => (kv p.1, p.2)
/-- What keys of a kind are to the model. -/
def Kind (d : TypeDesc) (kv : K → Value) : Prop := (∀ a, IsKey d (kv a)) ∧ ∀ a b, Instr.sameNow d (kv a) (kv b) = some (decide (a = b))
theorem Kind.key {d : TypeDesc} {kv : K → Value} (h : Kind d kv) (a : K) : IsKey d (kv a) := h.1 a
theorem Kind.same {d : TypeDesc} {kv : K → Value} (h : Kind d kv) (a b : K) : Instr.sameNow d (kv a) (kv b) = some (decide (a = b)) := h.2 a b

theorem MapAt.lt {kv : K → Value} {w : World} {H : Nat} {L : List (K × Value)} (h : MapAt kv w H L) : H < w.heap.size := by
  obtain ⟨es, c, h, _⟩ := h; exact (Array.getElem?_eq_some_iff.1 h).1
theorem MapAt.of_block {kv : K → Value} {w w' : World} {H : Nat} {L : List (K × Value)} (h : MapAt kv w H L) (e : w'.heap[H]? = w.heap[H]?) : MapAt kv w' H L := by
  obtain ⟨es, c, h, hm⟩ := h; exact ⟨es, c, e.trans h, hm⟩
theorem MapAt.up {kv : K → Value} {w w' : World} {B H : Nat} {L : List (K × Value)} (h : MapAt kv w H L) (hb : Below B w w') (hB : H < B) : MapAt kv w' H L := h.of_block (hb.block H hB)
theorem MapAt.alloc {kv : K → Value} {w : World} {H : Nat} {L : List (K × Value)} (h : MapAt kv w H L) (o : Obj) : MapAt kv (w.alloc o) H L := h.of_block ((heap_alloc w o).2 H h.lt)
theorem mapAt_new (kv : K → Value) (w : World) : MapAt kv (w.alloc (.map #[] 0)) w.heap.size ([] : List (K × Value)) := ⟨#[], 0, (heap_alloc w _).1, rfl⟩
theorem MapAt.setCell {kv : K → Value} {w : World} {H : Nat} {L : List (K × Value)} (h : MapAt kv w H L) {x : Addr} (hne : H ≠ x.block) (v : Value) : MapAt kv (w.setCell x v) H L := h.of_block (Below.heap_setCell _ _ _ _ hne)

theorem find_run {d : TypeDesc} {kv : K → Value} (hk : Kind d kv) (k : K) : ∀ (es : List MapEntry) (L : List (K × Value)) (i : Nat), es.map (fun e => (e.key, e.val)) = L.map (fun p => (kv p.1, p.2)) →
    ∃ j, Instr.findNow d (kv k) es i = some ((lk L k).map fun v => (i + j, v)) ∧ ((lk L k).isSome = true → j < es.length ∧ (es.eraseIdx j).map (fun e => (e.key, e.val)) = (rm L k).map fun p => (kv p.1, p.2))
  | [], L, i, h => by
    cases L with
    | nil => exact ⟨0, rfl, by simp [lk]⟩
    | cons p L => simp at h
  | e :: es, [], i, h => by simp at h
  | e :: es, (a, v) :: L, i, h => by
    simp only [List.map_cons, List.cons.injEq, Prod.mk.injEq] at h
    obtain ⟨⟨h1, h2⟩, h3⟩ := h
    by_cases hka : k = a
    · subst hka
      refine ⟨0, ?_, fun _ => ⟨by simp, ?_⟩⟩
      · simp [Instr.findNow, h1, hk.same, lk, h2]
      · simp [rm, h3]
    · obtain ⟨j, hj, hr⟩ := find_run hk k es L (i + 1) h3
      have hl : lk ((a, v) :: L) k = lk L k := by simp [lk, Ne.symm hka]
      refine ⟨j + 1, ?_, fun hs => ?_⟩
      · simp only [Instr.findNow, h1, hk.same, decide_eq_false hka, hl, hj]
        congr 1; congr 1; funext v; congr 1; omega
      · rw [hl] at hs
        obtain ⟨hlt, he⟩ := hr hs
        refine ⟨by simp; exact hlt, ?_⟩
        simp only [List.eraseIdx_cons_succ, List.map_cons, he, h1, h2, rm]
        rw [List.eraseP_cons_of_neg (by simp [Ne.symm hka])]
        rfl

section
variable {P : Program} {t k e : TypeId} {d : TypeDesc} {kv : K → Value}

theorem look_run (hd : P.underlying k = some d) (ht : P.underlying t = some (.map k e)) (hk : Kind d kv) {z : Value} (hz : ∀ w, (zeroValue e).run P w = .ok z w) {w : World} {H : Nat} {L : List (K × Value)} (hM : MapAt kv w H L) (x : K) :
    (Instr.lookup t (.map (some H)) (kv x) true).run P w = .ok (.tuple #[(lk L x).getD z, .bool (lk L x).isSome]) w := by
  obtain ⟨es, c, hb, hm⟩ := hM
  obtain ⟨j, hj, _⟩ := find_run hk x es.toList L 0 hm
  have hf := run_findKey (w := w) hd hj
  have hc : ∀ em, (Instr.checkKey em 10000 k (kv x)).run P w = .ok () w := fun em => run_checkKey hd (hk.key x) em 9999
  simp only [Instr.lookup, Sem.run_bind, run_underlying ht, Result.andThen_ok]
  simp only [Sem.run_bind, _root_.Go.MapKept.run_getObj_map hb, Result.andThen_ok, Sem.run_pure, hc, hf]
  cases lk L x with
  | none => simp [hz, Result.andThen]
  | some v => simp

theorem put_run (hd : P.underlying k = some d) (ht : P.underlying t = some (.map k e)) (hk : Kind d kv) {w : World} {H : Nat} {L : List (K × Value)} (hM : MapAt kv w H L) (x : K) (v : Value) (hx : lk L x = none) :
    ∃ o, (Instr.mapUpdate t (.map (some H)) (kv x) v).run P w = .ok () (setB w H o) ∧ MapAt kv (setB w H o) H (L ++ [(x, v)]) := by
  obtain ⟨es, c, hb, hm⟩ := hM
  obtain ⟨j, hj, _⟩ := find_run hk x es.toList L 0 hm
  have hf := run_findKey (w := w) hd hj
  have hc : ∀ em, (Instr.checkKey em 10000 k (kv x)).run P w = .ok () w := fun em => run_checkKey hd (hk.key x) em 9999
  refine ⟨.map (es.push { key := kv x, val := v, born := c }) (c + 1), ?_, _, _, setB_eq _ hb, ?_⟩
  · simp only [Instr.mapUpdate, Sem.run_bind, run_underlying ht, Result.andThen_ok]
    simp only [Sem.run_bind, _root_.Go.MapKept.run_getObj_map hb, Result.andThen_ok, hc, hf, hx, Option.map_none, _root_.Go.MapKept.run_setObj_map _ hb]
    rfl
  · simp [hm]

theorem del_run (hd : P.underlying k = some d) (ht : P.underlying t = some (.map k e)) (hk : Kind d kv) {w : World} {H : Nat} {L : List (K × Value)} (hM : MapAt kv w H L) (x : K) (t' r : TypeId) :
    ∃ o, (Builtin.delete_ #[t, t'] r #[.map (some H), kv x]).run P w = .ok (.tuple #[]) (setB w H o) ∧ MapAt kv (setB w H o) H (rm L x) := by
  obtain ⟨es, c, hb, hm⟩ := hM
  obtain ⟨j, hj, he⟩ := find_run hk x es.toList L 0 hm
  have hf := run_findKey (w := w) hd hj
  have hc : ∀ em, (Instr.checkKey em 10000 k (kv x)).run P w = .ok () w := fun em => run_checkKey hd (hk.key x) em 9999
  cases hl : lk L x with
  | none =>
    rw [hl] at hf
    refine ⟨.map es c, ?_, _, _, setB_eq _ hb, ?_⟩
    · simp [Builtin.delete_, run_underlying ht, _root_.Go.MapKept.run_getObj_map hb, Result.andThen, hc, hf, _root_.Go.MapKept.run_setObj_map _ hb, setB]
    · rw [hm]
      have : rm L x = L := by
        unfold rm
        apply List.eraseP_of_forall_not
        intro p hp
        have := (List.find?_eq_none.1 (Option.map_eq_none_iff.1 hl)) p hp
        simpa using this
      rw [this]
  | some v =>
    rw [hl] at hf he
    obtain ⟨hlt, he⟩ := he rfl
    refine ⟨.map (es.eraseIdxIfInBounds j) c, ?_, _, _, setB_eq _ hb, ?_⟩
    · simp [Builtin.delete_, run_underlying ht, _root_.Go.MapKept.run_getObj_map hb, Result.andThen, hc, hf, _root_.Go.MapKept.run_setObj_map _ hb, setB]
    · have hlt' : j < es.size := by simpa using hlt
      unfold Array.eraseIdxIfInBounds
      rw [dif_pos hlt', Array.toList_eraseIdx, he]

theorem wpList_look (w : World) {ops : Array Oper} {rest : List Oper} {o : Oper} {a : Act} {Q : Exit → Act → World → Prop} (hg : o.guard = none) (m x : Operand) (hop : o.op = Op.lookup t m x true)
    (hd : P.underlying k = some d) (ht : P.underlying t = some (.map k e)) (hk : Kind d kv) {z : Value} (hz : ∀ w, (zeroValue e).run P w = .ok z w) (H : Nat) (L : List (K × Value)) (hm : a.eval m = .map (some H)) (hM : MapAt kv w H L) (key : K) (hx : a.eval x = kv key)
    (r : Value) (q : Bool) (hr : (lk L key).getD z = r) (hq : (lk L key).isSome = q)
    (hK : wpList P ops Q rest (a.put o.dst (.tuple #[r, .bool q])) w) : wpList P ops Q (o :: rest) a w := by
  refine wpList_plain hg fun K' hK' => ?_
  unfold Oper.wp
  simp [execOp, hop, hm, hx, look_run hd ht hk hz hM, Result.andThen, hr, hq]
  exact hK' _ _ hK

theorem wpList_put (w : World) {ops : Array Oper} {rest : List Oper} {o : Oper} {a : Act} {Q : Exit → Act → World → Prop} (hg : o.guard = none) (m x v : Operand) (hop : o.op = Op.mapUpdate t m x v)
    (hd : P.underlying k = some d) (ht : P.underlying t = some (.map k e)) (hk : Kind d kv) (H : Nat) (L : List (K × Value)) (hm : a.eval m = .map (some H)) (hM : MapAt kv w H L) (key : K) (val : Value) (hx : a.eval x = kv key) (hv : a.eval v = val) (hn : lk L key = none)
    (hK : ∀ w', MapAt kv w' H (L ++ [(key, val)]) → Upd H w w' → wpList P ops Q rest (a.put o.dst undef) w') : wpList P ops Q (o :: rest) a w := by
  refine wpList_plain hg fun K' hK' => ?_
  obtain ⟨ob, hrun, hM'⟩ := put_run hd ht hk hM key val hn
  unfold Oper.wp
  simp [execOp, hop, hm, hx, hv, hrun, Result.andThen]
  exact hK' _ _ (hK _ hM' ⟨ob, rfl⟩)
theorem wpList_ins (w : World) {ops : Array Oper} {rest : List Oper} {o : Oper} {a : Act} {Q : Exit → Act → World → Prop} (hg : o.guard = none) (m x v : Operand) (hop : o.op = Op.insert t m x v)
    (hd : P.underlying k = some d) (ht : P.underlying t = some (.map k e)) (hk : Kind d kv) (H : Nat) (L : List (K × Value)) (hm : a.eval m = .map (some H)) (hM : MapAt kv w H L) (key : K) (val : Value) (hx : a.eval x = kv key) (hv : a.eval v = val) (hn : lk L key = none)
    (hK : ∀ w', MapAt kv w' H (L ++ [(key, val)]) → Upd H w w' → wpList P ops Q rest (a.put o.dst undef) w') : wpList P ops Q (o :: rest) a w := by
  refine wpList_plain hg fun K' hK' => ?_
  obtain ⟨ob, hrun, hM'⟩ := put_run hd ht hk hM key val hn
  unfold Oper.wp
  simp [execOp, hop, hm, hx, hv, hrun, Result.andThen]
  exact hK' _ _ (hK _ hM' ⟨ob, rfl⟩)
end

theorem lk_snoc (L : List (K × Value)) (a : K) (v : Value) (k : K) (h : lk L a = none) : lk (L ++ [(a, v)]) k = if k = a then some v else lk L k := by
  unfold lk at *
  rw [List.find?_append]
  by_cases hk : k = a
  · subst hk
    have := Option.map_eq_none_iff.1 h
    simp [this]
  · simp [hk, Ne.symm hk]
theorem lk_nil (k : K) : lk ([] : List (K × Value)) k = none := rfl

theorem kind_u8 : Kind (.int .u8) (fun a : Int => Value.int .u8 a) := ⟨fun a => rfl, fun a b => by simp [Instr.sameNow]; rfl⟩
theorem kind_string : Kind .string (fun s : ByteArray => Value.string s) := ⟨fun a => trivial, fun a b => by
  show some (a == b) = some (decide (a = b))
  congr 1
  rw [Bool.eq_iff_iff]
  simp [bytes_beq]⟩
end Go.Proofs.Ytkpgnopimnamfaa
