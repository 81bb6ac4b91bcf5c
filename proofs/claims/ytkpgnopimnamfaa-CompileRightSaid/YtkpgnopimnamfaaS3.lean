/- check.Slots' walk: the lists and the maps of its loops. -/
import Derived.Test.YtkpgnopimnamfaaP1
import Derived.Test.YtkpgnopimnamfaaS1
namespace Go.Proofs.Ytkpgnopimnamfaa
open Go.ChangeShapes Go.WideShapes Go.ChangeAt Go.RowKit
theorem flats_app (l m : List Ro) : flats (l ++ m) = flats l ++ flats m := by
  induction l with
  | nil => rfl
  | cons r l ih => simp [flats, ih]
theorem flats_take {ks : List Ro} {i : Nat} {r : Ro} (h : ks[i]? = some r) : flats (ks.take (i + 1)) = flats (ks.take i) ++ r.flat := by
  obtain ⟨hlt, rfl⟩ := List.getElem?_eq_some_iff.1 h
  rw [List.take_succ_eq_append_getElem hlt, flats_app]
  simp [flats]
theorem flats_split {ks : List Ro} {i : Nat} {r : Ro} (h : ks[i]? = some r) : flats ks = flats (ks.take i) ++ (r.flat ++ flats (ks.drop (i + 1))) := by
  obtain ⟨hlt, rfl⟩ := List.getElem?_eq_some_iff.1 h
  have e : ks = ks.take i ++ ks[i] :: ks.drop (i + 1) := by rw [← List.drop_eq_getElem_cons hlt, List.take_append_drop]
  have : flats ks = flats (ks.take i ++ ks[i] :: ks.drop (i + 1)) := by rw [← e]
  rw [this, flats_app]; rfl
theorem sl_fault {x : Tw} {L : Seen} {made : Nat} {nm : ByteArray} {s0 : Int} {md : Nat} {o0 f0 : Int} (h : hdS x L made = (nm, s0, md, o0, f0)) (hf : ¬ f0 = 0) (ks : List Ro) : sl L made (.node x ks) = (⟨#[]⟩, -1, md, [o0], f0, 0) := by
  unfold sl; rw [h]; simp only [if_neg hf]
theorem sl_ok {x : Tw} {L : Seen} {made : Nat} {nm : ByteArray} {s0 : Int} {md : Nat} {o0 : Int} (h : hdS x L made = (nm, s0, md, o0, 0)) {ks : List Ro} {m : Nat} {outr : List Int} {fr : Int} {adv : Nat} (hs : sls L md ks = (m, outr, fr, adv)) : sl L made (.node x ks) = (nm, s0, m, o0 :: outr, fr, adv + 1) := by
  unfold sl; rw [h]; simp only [if_pos, hs]
/-- The loop over the parts. -/
def SlRel (w : World) (pa : Option Addr) (cap : Nat) (T : List Tw) (bt H bs bm bo bn bq be bw : Nat) (outs : List Int) (a : Nat) (L : Seen) (X : Obj) (ks : List Ro) (md : Nat) (o0 : Int) (gk : Nat) (s15 s16 : Value) (wr : World) : Prop :=
  ∃ (i mdr : Nat) (outr : List Int) (nx : Nat) (fr : Int) (M : Seen) (g9 : Option Addr) (c9 : Nat),
    s16 = .int .i64 i ∧ s15 = .slice g9 M.length c9 ∧ wr.ownsRow (w.heap.size + 1) 9 1 (.slice g9 M.length c9) M.length (M.map fun p => Value.string p.1) ∧
    SF wr pa cap T bt H bs bm bo bn bq be bw ∧ SV wr bm bo bn bq mdr (outs ++ o0 :: outr) nx fr ∧ (∃ L', MapAt keyS wr H L' ∧ (fr = 0 → L' = mv (L ++ M))) ∧
    wr.heap[w.heap.size]? = some X ∧ Sw bt w wr ∧ i ≤ ks.length ∧ gk = ks.length - i ∧ mdr ≤ md + (flats (ks.take i)).length ∧ outr.length ≤ (flats (ks.take i)).length ∧ M.length ≤ i ∧ (∀ p ∈ M, li L p.1 = none) ∧
    ((fr = 0 ∧ nx = a + 1 + (flats (ks.take i)).length ∧ sls L md ks = ((sls (L ++ M) mdr (ks.drop i)).1, outr ++ (sls (L ++ M) mdr (ks.drop i)).2.1, (sls (L ++ M) mdr (ks.drop i)).2.2.1, (flats (ks.take i)).length + (sls (L ++ M) mdr (ks.drop i)).2.2.2)) ∨
     (¬ fr = 0 ∧ ∃ adv, nx = a + 1 + adv ∧ sls L md ks = (mdr, outr, fr, adv)))
/-- One part more. -/
theorem sls_step {L M : Seen} {md mdr : Nat} {outr : List Int} {ks : List Ro} {i : Nat} {r : Ro} (h : ks[i]? = some r)
    (hs : sls L md ks = ((sls (L ++ M) mdr (ks.drop i)).1, outr ++ (sls (L ++ M) mdr (ks.drop i)).2.1, (sls (L ++ M) mdr (ks.drop i)).2.2.1, (flats (ks.take i)).length + (sls (L ++ M) mdr (ks.drop i)).2.2.2)) :
    ((sl (L ++ M) mdr r).2.2.2.2.1 = 0 → sls L md ks = ((sls (seenBy (L ++ M) (sl (L ++ M) mdr r)) (sl (L ++ M) mdr r).2.2.1 (ks.drop (i + 1))).1, (outr ++ (sl (L ++ M) mdr r).2.2.2.1) ++ (sls (seenBy (L ++ M) (sl (L ++ M) mdr r)) (sl (L ++ M) mdr r).2.2.1 (ks.drop (i + 1))).2.1,
      (sls (seenBy (L ++ M) (sl (L ++ M) mdr r)) (sl (L ++ M) mdr r).2.2.1 (ks.drop (i + 1))).2.2.1, (flats (ks.take (i + 1))).length + (sls (seenBy (L ++ M) (sl (L ++ M) mdr r)) (sl (L ++ M) mdr r).2.2.1 (ks.drop (i + 1))).2.2.2)) ∧
    (¬ (sl (L ++ M) mdr r).2.2.2.2.1 = 0 → sls L md ks = ((sl (L ++ M) mdr r).2.2.1, outr ++ (sl (L ++ M) mdr r).2.2.2.1, (sl (L ++ M) mdr r).2.2.2.2.1, (flats (ks.take i)).length + (sl (L ++ M) mdr r).2.2.2.2.2)) := by
  obtain ⟨hlt, hr⟩ := List.getElem?_eq_some_iff.1 h
  have e : ks.drop i = r :: ks.drop (i + 1) := by rw [← hr]; exact List.drop_eq_getElem_cons hlt
  rw [e, sls_cons] at hs
  refine ⟨fun h0 => ?_, fun h0 => ?_⟩
  · rw [if_pos h0] at hs
    rw [hs, flats_take h]
    have := (sl_facts (L ++ M) mdr r).2.2.2 h0
    simp only [List.length_append, List.append_assoc, Prod.mk.injEq, true_and]
    omega
  · rw [if_neg h0] at hs
    exact hs
theorem rm_head (L : Seen) (p : ByteArray × Int) (M : Seen) (h : li L p.1 = none) : rm (mv (L ++ p :: M)) p.1 = mv (L ++ M) := by
  unfold rm mv
  simp only [List.map_append, List.map_cons]
  rw [List.eraseP_append_right]
  · simp
  · intro q hq
    obtain ⟨s, hs, rfl⟩ := List.mem_map.1 hq
    have := List.find?_eq_none.1 (Option.map_eq_none_iff.1 h) s hs
    simpa using this
section
variable {P : Program} {t k e : TypeId} {d : TypeDesc} {K : Type} [DecidableEq K] {kv : K → Value}
theorem wpList_del (w : World) {ops : Array Oper} {rest : List Oper} {o : Oper} {a : Act} {Q : Exit → Act → World → Prop} (hg : o.guard = none) (m x : Operand) (t' : TypeId) (hop : o.op = Op.call { callee := Callee.builtin Builtin.delete, args := #[m, x], argTypes := #[t, t'] })
    (hd : P.underlying k = some d) (ht : P.underlying t = some (.map k e)) (hk : Kind d kv) (H : Nat) (L : List (K × Value)) (hm : a.eval m = .map (some H)) (hM : MapAt kv w H L) (key : K) (hx : a.eval x = kv key)
    (hK : ∀ w', MapAt kv w' H (rm L key) → Upd H w w' → wpList P ops Q rest (a.put o.dst (.tuple #[])) w') : wpList P ops Q (o :: rest) a w := by
  refine wpList_plain hg fun K' hK' => ?_
  obtain ⟨ob, hrun, hM'⟩ := del_run hd ht hk hM key t' o.type
  unfold Oper.wp
  simp [execOp, hop, resolve, invoke, builtin, hm, hx, hrun, Result.andThen]
  exact hK' _ _ (hK _ hM' ⟨ob, rfl⟩)
end
theorem SV.upd {w w' : World} {bt H bs bm bo bn bq be bw made next : Nat} {outs : List Int} {fault : Int} (ho : OrdS bt H bs bm bo bn bq be bw) (h : SV w bm bo bn bq made outs next fault) (hu : Upd H w w') : SV w' bm bo bn bq made outs next fault := by
  obtain ⟨h1, h2, h3, g, co, h4, h5, h6⟩ := h
  unfold OrdS at ho
  refine ⟨(hu.block (by omega)).trans h1, (hu.block (by omega)).trans h2, (hu.block (by omega)).trans h3, g, co, (hu.block (by omega)).trans h4, ?_, h6⟩
  refine ⟨h5.1, ?_⟩
  rcases h5.2 with hn | ⟨g', cap, cur, e, hb, hgg, r⟩
  · exact .inl hn
  · exact .inr ⟨g', cap, cur, e, hb, (hu.block (by omega)).trans hgg, r⟩
theorem own_upd {w w' : World} {H base n : Nat} {ty : TypeId} {v : Value} {xs : List Value} (h : w.ownsRow base ty 1 v n xs) (hu : Upd H w w') (hb : H < base) : w'.ownsRow base ty 1 v n xs := by
  refine ⟨h.1, ?_⟩
  rcases h.2 with hn | ⟨g', cap, cur, e, hb, hgg, r⟩
  · exact .inl hn
  · exact .inr ⟨g', cap, cur, e, hb, (hu.block (by omega)).trans hgg, r⟩
theorem own_sw {w w' : World} {B base n : Nat} {v : Value} {xs : List Value} (h : w.ownsRow base 9 1 v n xs) (hs : Sw B w w') : w'.ownsRow base 9 1 v n xs := by
  refine ⟨h.1, ?_⟩
  rcases h.2 with hn | ⟨g', cap, cur, e, hb, hgg, r⟩
  · exact .inl hn
  · exact .inr ⟨g', cap, cur, e, hb, hs.2 _ _ _ _ hgg (by decide) (by decide) (by decide), r⟩
theorem flats_len : ∀ ks : List Ro, ks.length ≤ (flats ks).length
  | [] => by simp
  | r :: rs => by
    have := flats_len rs
    have := flat_pos r
    simp only [flats, List.length_cons, List.length_append]
    omega
theorem not_empty_of {s : ByteArray} (h : s.toList.isEmpty = false) : s ≠ ⟨#[]⟩ := by
  intro e
  rw [e] at h
  unfold ByteArray.toList ByteArray.toList.loop at h
  rw [if_neg (by decide)] at h
  cases h
theorem loop_len (s : ByteArray) : ∀ (n i : Nat) (r : List UInt8), s.size - i = n → r.length ≤ (ByteArray.toList.loop s i r).length := by
  intro n
  induction n with
  | zero =>
    intro i r h
    unfold ByteArray.toList.loop
    rw [if_neg (by omega)]; simp
  | succ n ih =>
    intro i r h
    unfold ByteArray.toList.loop
    rw [if_pos (by omega)]
    exact Nat.le_trans (by simp) (ih (i + 1) _ (by omega))
theorem empty_of {s : ByteArray} (h : s.toList.isEmpty = true) : s = ⟨#[]⟩ := by
  by_cases h0 : s.size = 0
  · apply ByteArray.ext; apply Array.eq_empty_of_size_eq_zero; exact h0
  · exfalso
    have h1 : s.toList = [] := by simpa using h
    unfold ByteArray.toList ByteArray.toList.loop at h1
    rw [if_pos (by omega)] at h1
    have h2 := loop_len s _ 1 [s.get! 0] rfl
    rw [h1] at h2
    simp at h2
/-- The loop that forgets the names. -/
def SlRel2 (w : World) (pa : Option Addr) (cap : Nat) (T : List Tw) (bt H bs bm bo bn bq be bw : Nat) (outs : List Int) (mdr nx : Nat) (fr : Int) (L M : Seen) (g9 : Option Addr) (c9 : Nat) (gk : Nat) (s89 : Value) (wz : World) : Prop :=
  ∃ (j : Nat) (L' : List (ByteArray × Value)), s89 = .int .i64 j ∧ wz.ownsRow (w.heap.size + 1) 9 1 (.slice g9 M.length c9) M.length (M.map fun p => Value.string p.1) ∧
    SF wz pa cap T bt H bs bm bo bn bq be bw ∧ SV wz bm bo bn bq mdr outs nx fr ∧ MapAt keyS wz H L' ∧ (fr = 0 → L' = mv (L ++ M.drop j)) ∧ Sw bt w wz ∧ j ≤ M.length ∧ gk = M.length - j
theorem str_one (w : World) (B : Nat) (v : ByteArray) (hB : w.heap.size = B) : ∀ (j : Nat) (u : Value), [Value.string v][j]? = some u → (w.alloc (.cells #[.string v] 9)).cell? ((⟨B, 0, none⟩ : Addr).add j) = some u := by
  intro j u hu
  subst hB
  have hj : j < 1 := (List.getElem?_eq_some_iff.1 hu).1
  match j, hj, hu with
  | 0, _, hu => simp at hu; subst hu; simp [Addr.add]
theorem one_str (v : ByteArray) : ∀ u ∈ [Value.string v], u.oneCell' = true := by
  intro u hu; simp at hu; subst hu; rfl
theorem sw_grown9 {B base n : Nat} {w w' w'' : World} {v : Value} {xs : List Value} (h : Sw B w w') (ho : w'.ownsRow base 9 1 v n xs) (hg : w'.grownBy w'' v.ownBlock) (hb : w.heap.size ≤ base) (hB : B ≤ w.heap.size) : Sw B w w'' := by
  refine ⟨h.1.trans ⟨hg.os, hg.tape, hg.output, hg.size, fun k hk => hg.block k (by have := h.size; omega) fun e => ?_⟩, fun k c t fz hk h1 h2 h3 => (hg.block k (by have := h.size; have := (Array.getElem?_eq_some_iff.1 hk).1; omega) fun e => ?_).trans (h.2 k c t fz hk h1 h2 h3)⟩
  · have := (ho.lt k e.symm).1; omega
  · have := (ho.lt k e.symm).1
    have := (Array.getElem?_eq_some_iff.1 hk).1
    omega
theorem SV.grown9 {bm bo bn bq made next base n : Nat} {outs : List Int} {fault : Int} {w w' : World} {v : Value} {xs : List Value} (h : SV w bm bo bn bq made outs next fault) (ho : w.ownsRow base 9 1 v n xs) (hg : w.grownBy w' v.ownBlock) : SV w' bm bo bn bq made outs next fault := by
  obtain ⟨h1, h2, h3, g, co, h4, h5, h6⟩ := h
  have ne : ∀ (b : Nat) (c : Array Value) (t : TypeId) (fz : Nat × Nat), w.heap[b]? = some (.cells c t fz) → t ≠ 9 → some b ≠ v.ownBlock := fun b c t fz hb ht e => by
    rcases ho.2 with ⟨rfl, _⟩ | ⟨g', cap, cur, rfl, _, hgg, _⟩
    · simp [Value.ownBlock] at e
    · simp [Value.ownBlock] at e
      subst e
      rw [hb] at hgg; cases hgg; exact ht rfl
  refine ⟨h1.kept hg (ne _ _ _ _ h1 (by decide)), h2.kept hg (ne _ _ _ _ h2 (by decide)), h3.kept hg (ne _ _ _ _ h3 (by decide)), g, co, h4.kept hg (ne _ _ _ _ h4 (by decide)), h5.kept hg ?_, h6⟩
  rcases h5.2 with ⟨e5, _⟩ | ⟨g', cap, cur, e5, _, hgg, _⟩
  · rw [e5]; exact .inl rfl
  · rw [e5]
    exact .inr (fun e => ne _ _ _ _ hgg (by decide) e)
theorem map_grown9 {H base n : Nat} {kv : ByteArray → Value} {L : List (ByteArray × Value)} {w w' : World} {v : Value} {xs : List Value} (h : MapAt kv w H L) (ho : w.ownsRow base 9 1 v n xs) (hg : w.grownBy w' v.ownBlock) : MapAt kv w' H L := by
  refine h.of_block (hg.block H h.lt fun e => ?_)
  obtain ⟨es, c, hmb, _⟩ := h
  rcases ho.2 with ⟨rfl, _⟩ | ⟨g', cap, cur, rfl, _, hgg, _⟩
  · simp [Value.ownBlock] at e
  · simp [Value.ownBlock] at e
    subst e
    rw [hmb] at hgg; cases hgg
theorem und62 : Try.prog.underlying 62 = some (.slice 9) := by kernel_rfl
theorem info9 : (Try.prog.info? 9).map (fun i => (i.zero, i.size, i.bytes)) = some (some (.string ⟨#[]⟩), 1, 16) := by kernel_rfl
end Go.Proofs.Ytkpgnopimnamfaa
