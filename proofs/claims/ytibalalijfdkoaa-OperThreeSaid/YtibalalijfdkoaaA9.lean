/- oper.kinds: a map of pairs, filled in an order that Go leaves open. -/
import Derived.Test.YtibalalijfdkoaaA8
import Derived.Laws.StructEq
namespace Go.Proofs.Ytibalalijfdkoaa
open Go.ChangeShapes Go.WideShapes Go.ChangeAt Go.RowKit

/-- A pair of kinds, as a map's key. -/
def pk (a b : Int) : Value := .agg #[.int .u8 a, .int .u8 b]

theorem equal_pk (a b c d : Int) (w : World) : (Op.equal 51 (pk a b) (pk c d)).run Try.prog w = .ok (a == c && b == d) w := by
  show (Op.equalIn (9998 + 1 + 1) 51 (.agg _) (.agg _)).run Try.prog w = _
  rw [run_equalIn_agg _ _ _ _ _ (by kernel_rfl) (by kernel_rfl)]
  rw [show Try.prog.fieldsOf 51 = _ from by unfold Program.fieldsOf; rw [Try.underlying51]]
  simp only [Op.eqFields]
  simp [go_sem, Try.underlying5]
  by_cases h1 : a = c <;> by_cases h2 : b = d <;> simp [h1, h2]
theorem checkKey_int (e : Bool) (a : Int) (n : Nat) (w : World) : (Instr.checkKey e (n + 1) 5 (.int .u8 a)).run Try.prog w = .ok () w := by
  rw [Instr.checkKey]
  simp only [Sem.run_bind, run_underlying Try.underlying5, Result.andThen_ok]
  rfl
theorem checkKey_pk (e : Bool) (a b : Int) (n : Nat) (w : World) : (Instr.checkKey e (n + 1 + 1) 51 (pk a b)).run Try.prog w = .ok () w := by
  unfold pk
  rw [Instr.checkKey]
  simp only [Sem.run_bind, run_underlying Try.underlying51, Result.andThen_ok]
  simp [part, go_sem, checkKey_int]

/-- What a map of pairs holds, as a list. -/
abbrev Pairs := List ((Int × Int) × Int)
def look (L : Pairs) (k : Int × Int) : Option Int := (L.find? fun p => p.1 == k).map (·.2)
def entryOf (p : (Int × Int) × Int) (n : Nat) : MapEntry := { key := pk p.1.1 p.1.2, val := .int .i64 p.2, born := n }
/-- Block H is a map that holds just L, in this order. -/
def IsMap (w : World) (H : Nat) (L : Pairs) : Prop := w.heap[H]? = some (.map (L.zipIdx.map fun x => entryOf x.1 x.2).toArray L.length)

theorem findAsking_run (a b : Int) (w : World) : ∀ (L : Pairs) (i n : Nat), ∃ j, (Instr.findAsking 51 (pk a b) ((L.zipIdx n).map fun x => entryOf x.1 x.2) i).run Try.prog w = .ok ((look L (a, b)).map fun v => (j, .int .i64 v)) w
  | [], i, n => ⟨0, rfl⟩
  | ((c, d), v) :: L, i, n => by
    obtain ⟨j, hj⟩ := findAsking_run a b w L (i + 1) (n + 1)
    simp only [List.zipIdx_cons, List.map_cons, Instr.findAsking, Sem.run_bind, entryOf, equal_pk, Result.andThen_ok]
    by_cases h : a = c ∧ b = d
    · obtain ⟨rfl, rfl⟩ := h
      exact ⟨i, by simp [look]⟩
    · have h1 : (a == c && b == d) = false := by
        rw [Bool.and_eq_false_iff, beq_eq_false_iff_ne, beq_eq_false_iff_ne]
        by_cases h1 : a = c
        · exact .inr fun h2 => h ⟨h1, h2⟩
        · exact .inl h1
      have h2 : (((c, d) : Int × Int) == (a, b)) = false := by
        rw [beq_eq_false_iff_ne]; intro h2; cases h2; exact h ⟨rfl, rfl⟩
      refine ⟨j, ?_⟩
      rw [h1]
      simp only [Bool.false_eq_true, if_false]
      rw [show look (((c, d), v) :: L) (a, b) = look L (a, b) from by simp only [look, List.find?_cons, h2]]
      exact hj
theorem findKey_run (a b : Int) (w : World) (L : Pairs) : ∃ j, (Instr.findKey 51 (pk a b) (L.zipIdx.map fun x => entryOf x.1 x.2)).run Try.prog w = .ok ((look L (a, b)).map fun v => (j, .int .i64 v)) w := by
  cases L with
  | nil => exact ⟨0, by simp [Instr.findKey, run_underlying Try.underlying51, Instr.findNow, look]⟩
  | cons p L =>
    obtain ⟨j, hj⟩ := findAsking_run a b w (p :: L) 0 0
    refine ⟨j, ?_⟩
    simp only [Instr.findKey, Sem.run_bind, run_underlying Try.underlying51, Result.andThen_ok]
    rw [show Instr.findNow (TypeDesc.struct #[{ name := "a", type := 5, offset := 0, embedded := false, tag := "", pkgPath := "prompter/oper", byteOffset := 0 }, { name := "b", type := 5, offset := 1, embedded := false, tag := "", pkgPath := "prompter/oper", byteOffset := 1 }]) (pk a b) ((p :: L).zipIdx.map fun x => entryOf x.1 x.2) 0 = none from rfl]
    exact hj

theorem lookup_run (a b : Int) (w : World) (H : Nat) (L : Pairs) (v : Int) (h : IsMap w H L) (hv : look L (a, b) = some v) : (Instr.lookup 48 (.map (some H)) (pk a b) false).run Try.prog w = .ok (.int .i64 v) w := by
  obtain ⟨j, hj⟩ := findKey_run a b w L
  rw [hv] at hj
  have hc : ∀ e, (Instr.checkKey e 10000 51 (pk a b)).run Try.prog w = .ok () w := fun e => checkKey_pk e a b 9998 w
  unfold IsMap at h
  simp only [Instr.lookup, Sem.run_bind, run_underlying Try.underlying48, Result.andThen_ok]
  simp only [getObj, Sem.run, h, Result.andThen_ok]
  simp only [Sem.run_bind, Sem.run_pure, Result.andThen_ok, hc, hj, Option.map_some]
  rfl

theorem insert_run (a b v : Int) (w : World) (H : Nat) (L : Pairs) (h : IsMap w H L) (hv : look L (a, b) = none) :
    (Instr.mapUpdate 48 (.map (some H)) (pk a b) (.int .i64 v)).run Try.prog w = .ok () { w with heap := w.heap.setIfInBounds H (.map ((L ++ [((a, b), v)]).zipIdx.map fun x => entryOf x.1 x.2).toArray (L ++ [((a, b), v)]).length) } := by
  obtain ⟨j, hj⟩ := findKey_run a b w L
  rw [hv] at hj
  have hc : ∀ e, (Instr.checkKey e 10000 51 (pk a b)).run Try.prog w = .ok () w := fun e => checkKey_pk e a b 9998 w
  unfold IsMap at h
  simp only [Instr.mapUpdate, Sem.run_bind, run_underlying Try.underlying48, Result.andThen_ok]
  simp only [getObj, Sem.run, h, Result.andThen_ok]
  simp only [Sem.run_bind, Result.andThen_ok, hc, hj, Option.map_none, setObj, Sem.run, h]
  have e : (L.zipIdx.map fun x => entryOf x.1 x.2).toArray.push { key := pk a b, val := .int .i64 v, born := L.length } = ((L ++ [((a, b), v)]).zipIdx.map fun x => entryOf x.1 x.2).toArray := by
    simp [List.zipIdx_append, entryOf]
  rw [e]
  simp
def tbl (b2 b4 b6 b8 b10 b12 : Bool) (k : Int × Int) : Option Int :=
  if b2 && k == (2, 2) then some 1 else if b4 && k == (2, 4) then some 2 else if b6 && k == (4, 2) then some 2 else if b8 && k == (4, 4) then some 2 else if b10 && k == (3, 3) then some 3 else if b12 && k == (5, 5) then some 4 else none

theorem look_snoc (L : Pairs) (p : (Int × Int) × Int) (k : Int × Int) (h : look L p.1 = none) : look (L ++ [p]) k = if k == p.1 then some p.2 else look L k := by
  unfold look at *
  rw [List.find?_append]
  by_cases hk : k = p.1
  · subst hk
    cases hf : L.find? fun q => q.1 == p.1 with
    | none => simp
    | some q => rw [hf] at h; cases h
  · have h1 : (p.1 == k) = false := by rw [beq_eq_false_iff_ne]; exact fun e => hk e.symm
    have h2 : (k == p.1) = false := by rw [beq_eq_false_iff_ne]; exact hk
    cases hf : L.find? fun q => q.1 == k <;> simp [h1, h2]

/-- How the map stands while it is filled. -/
def Filling (w0 : World) (T : Int × Int → Option Int) (w : World) : Prop :=
  ∃ L, IsMap w w0.heap.size L ∧ (∀ k, look L k = T k) ∧ Below w0.heap.size w0 w

theorem Filling.next {w0 : World} {T T' : Int × Int → Option Int} {w : World} (h : Filling w0 T w) (a b v : Int) (hn : T (a, b) = none) (ht : ∀ k, T' k = if k == (a, b) then some v else T k) :
    ∃ w', (Instr.mapUpdate 48 (.map (some w0.heap.size)) (pk a b) (.int .i64 v)).run Try.prog w = .ok () w' ∧ Filling w0 T' w' := by
  obtain ⟨L, hm, hl, hb⟩ := h
  refine ⟨_, insert_run a b v w w0.heap.size L hm ((hl _).trans hn), L ++ [((a, b), v)], ?_, fun k => ?_, hb.trans ⟨rfl, rfl, rfl, by simp, fun k hk => ?_⟩⟩
  · have hlt := (Array.getElem?_eq_some_iff.1 hm).1
    simp [IsMap, hlt]
  · rw [look_snoc L _ k ((hl _).trans hn), ht, hl]
  · simp only [Array.getElem?_setIfInBounds]
    rw [if_neg (by omega)]

/-- An insert into the map: what it takes of its operation. -/
def InsAt (ops : Array Oper) (a : Act) (r : Nat) (i : Nat) (x y v : Int) : Prop :=
  ∃ o, ops[i]? = some o ∧ o.dst = none ∧ o.guard = none ∧ (execOp a.eval o = (do Instr.mapUpdate 48 (.map (some r)) (pk x y) (.int .i64 v); pure .skip)) ∧ ∀ e ∈ o.after, e.on ∈ [0, 1, 3, 5, 7, 9, 11]

theorem InsAt.wp {ops : Array Oper} {a : Act} {w0 : World} {i : Nat} {x y v : Int} (h : InsAt ops a w0.heap.size i x y v) {T T' : Int × Int → Option Int} {w : World} (hw : Filling w0 T w) (hn : T (x, y) = none)
    (ht : ∀ k, T' k = if k == (x, y) then some v else T k) {Q : Exit → Act → World → Prop} {K : Act → World → Prop} (hK : ∀ w', Filling w0 T' w' → K a w') : wpOp Try.prog ops Q i K a w := by
  obtain ⟨o, ho, hd, hg, he, _⟩ := h
  obtain ⟨w', hr, hw'⟩ := hw.next x y v hn ht
  unfold wpOp
  simp only [ho]
  have hwant : Region.wanted o (yielded ops a.tmps) = true := by unfold Region.wanted; rw [hg]
  rw [if_pos hwant]
  left
  unfold Oper.wp
  rw [he]
  simp only [Sem.run_bind, hr, Result.andThen_ok, Sem.run_pure]
  rw [Oper.upon_skip, hd]
  exact hK w' hw'

theorem fill_all {ops : Array Oper} {a : Act} {w0 : World} {Q : Exit → Act → World → Prop} (hs : ops.size = 15)
    (h2 : InsAt ops a w0.heap.size 2 2 2 1)
    (h4 : InsAt ops a w0.heap.size 4 2 4 2)
    (h6 : InsAt ops a w0.heap.size 6 4 2 2)
    (h8 : InsAt ops a w0.heap.size 8 4 4 2)
    (h10 : InsAt ops a w0.heap.size 10 3 3 3)
    (h12 : InsAt ops a w0.heap.size 12 5 5 4)
    (e13 : ∀ j ∈ [2, 4, 6, 8, 10, 12], ∃ o, ops[13]? = some o ∧ ∃ e ∈ o.after, Region.binds .any e = true ∧ e.on = j) (e14 : ∃ o, ops[14]? = some o ∧ ∃ e ∈ o.after, Region.binds .any e = true ∧ e.on = 13)
    (hfin : ∀ w, Filling w0 (tbl true true true true true true) w → wpAny Try.prog .any ops Q 2 #[true, true, true, true, true, true, true, true, true, true, true, true, true, false, false] a w) :
    ∀ (m : Nat) (b2 b4 b6 b8 b10 b12 : Bool), (!b2).toNat + (!b4).toNat + (!b6).toNat + (!b8).toNat + (!b10).toNat + (!b12).toNat = m → ∀ w, Filling w0 (tbl b2 b4 b6 b8 b10 b12) w → wpAny Try.prog .any ops Q (m + 2) #[true, true, b2, true, b4, true, b6, true, b8, true, b10, true, b12, false, false] a w := by
  intro m
  induction m with
  | zero =>
    intro b2 b4 b6 b8 b10 b12 hm w hw
    obtain rfl : b2 = true := by cases b2 <;> simp_all
    obtain rfl : b4 = true := by cases b4 <;> simp_all
    obtain rfl : b6 = true := by cases b6 <;> simp_all
    obtain rfl : b8 = true := by cases b8 <;> simp_all
    obtain rfl : b10 = true := by cases b10 <;> simp_all
    obtain rfl : b12 = true := by cases b12 <;> simp_all
    exact hfin w hw
  | succ m ih =>
    intro b2 b4 b6 b8 b10 b12 hm w hw
    refine ⟨fun h0 => ?_, fun i hi => ?_⟩
    · -- one of them may come up
      exfalso
      have hex : ∀ i x y v, InsAt ops a w0.heap.size i x y v → (#[true, true, b2, true, b4, true, b6, true, b8, true, b10, true, b12, false, false] : Array Bool).getD i true = false → False := by
        intro i x y v ⟨o, ho, _, _, _, h2⟩ h1
        have : i ∈ Region.ready .any ops #[true, true, b2, true, b4, true, b6, true, b8, true, b10, true, b12, false, false] := mem_ready.2 ⟨h1, o, ho, fun e he _ => by
          have := h2 e he
          simp only [List.mem_cons, List.not_mem_nil, or_false] at this
          rcases this with h | h | h | h | h | h | h <;> rw [h] <;> rfl⟩
        rw [h0] at this
        cases this
      cases b2
      · exact hex 2 2 2 1 h2 rfl
      cases b4
      · exact hex 4 2 4 2 h4 rfl
      cases b6
      · exact hex 6 4 2 2 h6 rfl
      cases b8
      · exact hex 8 4 4 2 h8 rfl
      cases b10
      · exact hex 10 3 3 3 h10 rfl
      cases b12
      · exact hex 12 5 5 4 h12 rfl
      simp at hm
    · obtain ⟨h1, o, ho, hall⟩ := mem_ready.1 hi
      have hlt : i < 15 := by rw [← hs]; exact (Array.getElem?_eq_some_iff.1 ho).1
      by_cases hi2 : i = 2
      · subst hi2
        obtain rfl : b2 = false := h1
        refine h2.wp (T' := tbl true b4 b6 b8 b10 b12) hw (by simp [tbl]) (fun k => ?_) (fun w' hw' => ih true b4 b6 b8 b10 b12 (by simp at hm ⊢; omega) w' hw')
        by_cases hk : k = (2, 2)
        · subst hk; simp [tbl]
        · have hk' : (k == (2, 2)) = false := by rw [beq_eq_false_iff_ne]; exact hk
          simp [tbl, hk']
      by_cases hi4 : i = 4
      · subst hi4
        obtain rfl : b4 = false := h1
        refine h4.wp (T' := tbl b2 true b6 b8 b10 b12) hw (by simp [tbl]) (fun k => ?_) (fun w' hw' => ih b2 true b6 b8 b10 b12 (by simp at hm ⊢; omega) w' hw')
        by_cases hk : k = (2, 4)
        · subst hk; simp [tbl]
        · have hk' : (k == (2, 4)) = false := by rw [beq_eq_false_iff_ne]; exact hk
          simp [tbl, hk']
      by_cases hi6 : i = 6
      · subst hi6
        obtain rfl : b6 = false := h1
        refine h6.wp (T' := tbl b2 b4 true b8 b10 b12) hw (by simp [tbl]) (fun k => ?_) (fun w' hw' => ih b2 b4 true b8 b10 b12 (by simp at hm ⊢; omega) w' hw')
        by_cases hk : k = (4, 2)
        · subst hk; simp [tbl]
        · have hk' : (k == (4, 2)) = false := by rw [beq_eq_false_iff_ne]; exact hk
          simp [tbl, hk']
      by_cases hi8 : i = 8
      · subst hi8
        obtain rfl : b8 = false := h1
        refine h8.wp (T' := tbl b2 b4 b6 true b10 b12) hw (by simp [tbl]) (fun k => ?_) (fun w' hw' => ih b2 b4 b6 true b10 b12 (by simp at hm ⊢; omega) w' hw')
        by_cases hk : k = (4, 4)
        · subst hk; simp [tbl]
        · have hk' : (k == (4, 4)) = false := by rw [beq_eq_false_iff_ne]; exact hk
          simp [tbl, hk']
      by_cases hi10 : i = 10
      · subst hi10
        obtain rfl : b10 = false := h1
        refine h10.wp (T' := tbl b2 b4 b6 b8 true b12) hw (by simp [tbl]) (fun k => ?_) (fun w' hw' => ih b2 b4 b6 b8 true b12 (by simp at hm ⊢; omega) w' hw')
        by_cases hk : k = (3, 3)
        · subst hk; simp [tbl]
        · have hk' : (k == (3, 3)) = false := by rw [beq_eq_false_iff_ne]; exact hk
          simp [tbl, hk']
      by_cases hi12 : i = 12
      · subst hi12
        obtain rfl : b12 = false := h1
        refine h12.wp (T' := tbl b2 b4 b6 b8 b10 true) hw (by simp [tbl]) (fun k => ?_) (fun w' hw' => ih b2 b4 b6 b8 b10 true (by simp at hm ⊢; omega) w' hw')
        by_cases hk : k = (5, 5)
        · subst hk; simp [tbl]
        · have hk' : (k == (5, 5)) = false := by rw [beq_eq_false_iff_ne]; exact hk
          simp [tbl, hk']
      exfalso
      by_cases hi13 : i = 13
      · subst hi13
        have hb : ∀ j ∈ [2, 4, 6, 8, 10, 12], (#[true, true, b2, true, b4, true, b6, true, b8, true, b10, true, b12, false, false] : Array Bool).getD j false = true := by
          intro j hj
          obtain ⟨o', ho', e, he, hbi, rfl⟩ := e13 j hj
          rw [ho] at ho'; cases ho'
          exact hall e he hbi
        have q2 : b2 = true := hb 2 (by simp)
        have q4 : b4 = true := hb 4 (by simp)
        have q6 : b6 = true := hb 6 (by simp)
        have q8 : b8 = true := hb 8 (by simp)
        have q10 : b10 = true := hb 10 (by simp)
        have q12 : b12 = true := hb 12 (by simp)
        subst q2 q4 q6 q8 q10 q12
        simp at hm
      by_cases hi14 : i = 14
      · subst hi14
        obtain ⟨o', ho', e, he, hbi, h13⟩ := e14
        rw [ho] at ho'; cases ho'
        have := hall e he hbi
        rw [h13] at this
        cases this
      have hrest : i = 0 ∨ i = 1 ∨ i = 3 ∨ i = 5 ∨ i = 7 ∨ i = 9 ∨ i = 11 := by omega
      rcases hrest with h | h | h | h | h | h | h <;> (subst h; cases h1)

/-- What oper.kinds answers: a new map. -/
def KindsMade (w : World) (e : Ending) (w' : World) : Prop := e = .returned (.map (some w.heap.size)) ∧ Filling w (tbl true true true true true true) w'

set_option maxRecDepth 100000 in
set_option maxHeartbeats 1000000 in
theorem kinds_any (w : World) : Calls Try.prog 18 #[] w (KindsMade w) := by
  go_enter Try.func18, Try.ntmps18
  go_wp2
  refine wp_region_any (by kernel_rfl) ?_
  refine wpAny_take (i := 1) (v := pk 2 2) rfl (by kernel_rfl) (by kernel_rfl) (by kernel_rfl) (fun _ _ _ h => h) (Or.inl ⟨by rfl, by intro w; go_simp; rfl⟩) ?_
  refine wpAny_take (i := 3) (v := pk 2 4) rfl (by kernel_rfl) (by kernel_rfl) (by kernel_rfl) (fun _ _ _ h => h) (Or.inl ⟨by rfl, by intro w; go_simp; rfl⟩) ?_
  refine wpAny_take (i := 5) (v := pk 4 2) rfl (by kernel_rfl) (by kernel_rfl) (by kernel_rfl) (fun _ _ _ h => h) (Or.inl ⟨by rfl, by intro w; go_simp; rfl⟩) ?_
  refine wpAny_take (i := 7) (v := pk 4 4) rfl (by kernel_rfl) (by kernel_rfl) (by kernel_rfl) (fun _ _ _ h => h) (Or.inl ⟨by rfl, by intro w; go_simp; rfl⟩) ?_
  refine wpAny_take (i := 9) (v := pk 3 3) rfl (by kernel_rfl) (by kernel_rfl) (by kernel_rfl) (fun _ _ _ h => h) (Or.inl ⟨by rfl, by intro w; go_simp; rfl⟩) ?_
  refine wpAny_take (i := 11) (v := pk 5 5) rfl (by kernel_rfl) (by kernel_rfl) (by kernel_rfl) (fun _ _ _ h => h) (Or.inl ⟨by rfl, by intro w; go_simp; rfl⟩) ?_
  change wpAny Try.prog .any _ _ 9 #[false, true, false, true, false, true, false, true, false, true, false, true, false, false, false] { tmps := #[.map none, undef, pk 2 2, pk 2 4, pk 4 2, pk 4 4, pk 3 3, pk 5 5, undef], defers := [] } w.drew
  refine wpAny_ready (rs := [0]) (by kernel_rfl) (by simp) ?_
  refine AllReady.cons rfl (fun K hK => ?_) AllReady.nil
  have hmm := @run_makeMap Try.prog
  go_simp
  refine hK _ _ ?_
  clear hK K hmm
  change wpAny Try.prog .any _ _ 8 #[true, true, false, true, false, true, false, true, false, true, false, true, false, false, false] { tmps := #[.map none, (.map (some w.heap.size)), pk 2 2, pk 2 4, pk 4 2, pk 4 4, pk 3 3, pk 5 5, undef], defers := [] } (w.alloc (.map #[] 0)).drew
  have hstart : Filling w (tbl false false false false false false) (w.alloc (.map #[] 0)).drew :=
    ⟨[], World.alloc_heap_new w _, fun _ => rfl, ((Below.refl _ w).alloc (Nat.le_refl _) _).drew⟩
  have ins : ∀ {ops : Array Oper} {a : Act} {r i : Nat} {x y v : Int} {o : Oper}, ops[i]? = some o → o.dst = none → o.guard = none → (execOp a.eval o = (do Instr.mapUpdate 48 (.map (some r)) (pk x y) (.int .i64 v); pure .skip)) →
      (o.after.toList.all fun e => [0, 1, 3, 5, 7, 9, 11].contains e.on) = true → InsAt ops a r i x y v := by
    intro ops a r i x y v o h1 h2 h3 h4 h5
    refine ⟨o, h1, h2, h3, h4, fun e he => ?_⟩
    have := List.all_eq_true.1 h5 e (Array.mem_toList_iff.2 he)
    simpa using this
  refine fill_all (w0 := w) rfl (ins rfl rfl rfl rfl rfl) (ins rfl rfl rfl rfl rfl) (ins rfl rfl rfl rfl rfl) (ins rfl rfl rfl rfl rfl) (ins rfl rfl rfl rfl rfl) (ins rfl rfl rfl rfl rfl) ?e13 ?e14 ?hfin 6 false false false false false false rfl _ hstart
  case e13 =>
    intro j hj
    simp only [List.mem_cons, List.not_mem_nil, or_false] at hj
    refine ⟨_, rfl, { on := j, ground := .data }, ?_, rfl, rfl⟩
    rcases hj with rfl | rfl | rfl | rfl | rfl | rfl <;> simp
  case e14 => exact ⟨_, rfl, { on := 13, ground := .data }, by simp, rfl, rfl⟩
  case hfin =>
    intro w1 hw1
    have HW := Lib.hid hw1
    clear hw1 hstart ins
    refine wpAny_ready (rs := [13]) (by kernel_rfl) (by simp) ?_
    refine AllReady.cons rfl (fun K hK => ?_) AllReady.nil
    go_simp
    refine hK _ _ ?_
    clear hK K
    refine wpAny_ready (rs := [14]) (by kernel_rfl) (by simp) ?_
    refine AllReady.cons rfl (fun K hK => ?_) AllReady.nil
    go_simp
    refine hK _ _ ?_
    clear hK K
    refine wpAny_done (by kernel_rfl) ?_ _
    go_wp2
    go_ret
    exact ⟨rfl, HW.out⟩
end Go.Proofs.Ytibalalijfdkoaa
