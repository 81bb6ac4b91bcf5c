/- The heap: New, Push, Peek, drop and Pop. -/
import Derived.Test.YtkpgnopimnamfaaHB
import Derived.Test.YtkpgnopimnamfaaS3
namespace Go.Proofs.Ytkpgnopimnamfaa
open Go.ChangeShapes Go.WideShapes Go.ChangeAt Go.RowKit
def NewPost (w : World) (e : Ending) (w' : World) : Prop :=
  e = .returned (.pointer (some ⟨w.heap.size + 1, 0, none⟩)) ∧ HpO w' w.heap.size (w.heap.size + 1) none 0 w.heap.size [] 0 [] ∧ Below w.heap.size w w'
theorem new_any (w : World) : Calls Try.prog 25 #[] w (NewPost w) := by
  have hmk : (Instr.makeMap 81 none).run Try.prog w = .ok (.map (some w.heap.size)) (w.alloc (.map #[] 0)) := rfl
  go_enter Try.func25, Try.ntmps25
  go_wp2_with fail
  go_ret
  refine ⟨rfl, ⟨?_, World.ownsRow_nil _ _ _ _, (mapAt_new keyI w).alloc _⟩, ((Below.refl _ w).alloc (Nat.le_refl _) _).alloc (by simp) _⟩
  have := (MapKept.heap_alloc (w.alloc (.map #[] 0)) (.cells #[.bool true, .slice none 0 0, .map (some w.heap.size), .int .i64 0] 84)).1
  rwa [World.size_alloc] at this
theorem len_any (w : World) (B hp cap H : Nat) (ao : Option Addr) (X : List Th) (next : Int) (L : List (Int × Value)) (h : HpO w B hp ao cap H X next L) :
    Calls Try.prog 55 #[.pointer (some ⟨hp, 0, none⟩)] w fun e w' => e = .returned (.int .i64 X.length) ∧ w = w' := by
  have p1 : w.cell? ⟨hp, 1, none⟩ = some (.slice ao X.length cap) := (cell_block h.1).trans rfl
  clear h
  go_enter Try.func55, Try.ntmps55
  go_wp2
  go_ret
  exact ⟨rfl, rfl⟩
/-- Of what was there, but a heap's own variables and rows of things all is as it was. -/
def FrT (B hp : Nat) (w w' : World) : Prop := Below B w w' ∧ ∀ (k : Nat) (c : Array Value) (t : TypeId) (fz : Nat × Nat), w.heap[k]? = some (.cells c t fz) → k ≠ hp → t ≠ 91 → w'.heap[k]? = some (.cells c t fz)
section
variable {B hp : Nat} {w w' w'' : World}
theorem FrT.refl (B hp : Nat) (w : World) : FrT B hp w w := ⟨Below.refl _ _, fun _ _ _ _ h _ _ => h⟩
theorem FrT.trans (h : FrT B hp w w') (k : FrT B hp w' w'') : FrT B hp w w'' := ⟨h.1.trans k.1, fun i c t fz hi h1 h2 => k.2 i c t fz (h.2 i c t fz hi h1 h2) h1 h2⟩
theorem FrT.size (h : FrT B hp w w') : w.heap.size ≤ w'.heap.size := h.1.size
theorem FrT.of_below (h : Below w.heap.size w w') (hB : B ≤ w.heap.size) : FrT B hp w w' := ⟨h.mono hB, fun k _ _ _ hk _ _ => (h.block k (Array.getElem?_eq_some_iff.1 hk).1).trans hk⟩
theorem FrT.alloc (h : FrT B hp w w') (hB : B ≤ w.heap.size) (o : Obj) : FrT B hp w (w'.alloc o) := h.trans (.of_below ((Below.refl _ _).alloc (Nat.le_refl _) o) (Nat.le_trans hB h.size))
theorem FrT.setH (h : FrT B hp w w') (hB : B ≤ hp) (o : Nat) (v : Value) : FrT B hp w (w'.setCell ⟨hp, o, none⟩ v) :=
  h.trans ⟨(Below.refl B w').setCell hB v, fun _ _ _ _ hk h1 _ => (Below.heap_setCell _ _ _ _ h1).trans hk⟩
theorem FrT.fr (h : FrT B hp w w') {g cap n : Nat} {xs : List Value} (ho : w'.ownsRow B 91 3 (.slice (some ⟨g, 0, none⟩) n cap) n xs) (k : Fr B g w' w'') : FrT B hp w w'' :=
  h.trans ⟨k.1, fun i c t fz hi h1 h2 => k.2 i c t fz hi (fun e => by
    rcases ho.2 with ⟨e', _⟩ | ⟨g', cp, cur, e', _, hgg, _⟩
    · cases e'
    · cases e'
      rw [e, hgg] at hi
      cases hi
      exact h2 rfl)⟩
theorem FrT.grown (h : FrT B hp w w') {n : Nat} {v : Value} {xs : List Value} (ho : w'.ownsRow B 91 3 v n xs) (hg : w'.grownBy w'' v.ownBlock) (hB : B ≤ w'.heap.size) : FrT B hp w w'' := by
  refine h.trans ⟨⟨hg.os, hg.tape, hg.output, hg.size, fun k hk => hg.block k (by omega) fun e => ?_⟩, fun k c t fz hk _ h2 => (hg.block k (Array.getElem?_eq_some_iff.1 hk).1 fun e => ?_).trans hk⟩
  · have := (ho.lt k e.symm).1; omega
  · rcases ho.2 with ⟨rfl, _⟩ | ⟨g, cap, cur, rfl, hb, hgg, _⟩
    · simp [Value.ownBlock] at e
    · simp [Value.ownBlock] at e
      subst e
      rw [hgg] at hk; cases hk; exact h2 rfl
end
theorem info91 : (Try.prog.info? 91).map (fun i => (i.zero, i.size, i.bytes)) = some (some (.agg #[.int .i64 0, .int .i64 0, .int .i64 0]), 3, 24) := by kernel_rfl
theorem und82 : Try.prog.underlying 82 = some (.slice 91) := by kernel_rfl
theorem own_neh {w : World} {B hp n : Nat} {v : Value} {xs : List Value} {c : Array Value} {t : TypeId} {fz : Nat × Nat} (h : w.ownsRow B 91 3 v n xs) (hG : w.heap[hp]? = some (.cells c t fz)) (ht : t ≠ 91) : some hp ≠ v.ownBlock := by
  rcases h.2 with ⟨rfl, _⟩ | ⟨g, cap, cur, rfl, hb, hgg, _⟩
  · simp [Value.ownBlock]
  · intro e
    simp [Value.ownBlock] at e
    subst e
    rw [hgg] at hG; cases hG; exact ht rfl
theorem own_seth {w : World} {B hp n : Nat} {v : Value} {xs : List Value} {c : Array Value} {t : TypeId} {fz : Nat × Nat} (h : w.ownsRow B 91 3 v n xs) (hG : w.heap[hp]? = some (.cells c t fz)) (ht : t ≠ 91) (o : Nat) (u : Value) : (w.setCell ⟨hp, o, none⟩ u).ownsRow B 91 3 v n xs := by
  have hne := own_neh h hG ht
  refine h.kept (row := some hp) ⟨rfl, rfl, rfl, by simp [World.setCell], fun k _ hk => Below.heap_setCell _ _ _ _ (fun e => hk (by rw [e]))⟩ (.inr (fun e => hne e.symm))
theorem map_ne {w : World} {H hp : Nat} {L : List (Int × Value)} {c : Array Value} {t : TypeId} {fz : Nat × Nat} (h : MapAt keyI w H L) (hG : w.heap[hp]? = some (.cells c t fz)) : H ≠ hp := fun e => by
  obtain ⟨es, cl, hm, _⟩ := h
  rw [e, hG] at hm; cases hm
theorem HpO.setNext {w : World} {B hp cap H : Nat} {ao : Option Addr} {X : List Th} {next : Int} {L : List (Int × Value)} (h : HpO w B hp ao cap H X next L) (n : Int) : HpO (w.setCell ⟨hp, 3, none⟩ (.int .i64 n)) B hp ao cap H X n L :=
  ⟨by rw [setc_at h.1]; rfl, own_seth h.2.1 h.1 (by decide) _ _, h.2.2.setCell (x := ⟨hp, 3, none⟩) (map_ne h.2.2 h.1) _⟩
def PushPost (w : World) (B hp H : Nat) (X : List Th) (next key v : Int) (e : Ending) (w' : World) : Prop :=
  e = .returned (.int .i64 next) ∧ (∃ (ao' : Option Addr) (cap' : Nat) (X' : List Th) (L' : List (Int × Value)), List.Perm X' (X ++ [(key, next, v)]) ∧ HpO w' B hp ao' cap' H X' (next + 1) L') ∧ FrT B hp w w'
theorem thCells_app (X Y : List Th) : thCells (X ++ Y) = thCells X ++ thCells Y := by simp [thCells]
set_option maxRecDepth 100000 in
set_option maxHeartbeats 2000000 in
theorem push_any (w : World) (B hp cap H : Nat) (ao : Option Addr) (X : List Th) (next : Int) (L : List (Int × Value)) (h : HpO w B hp ao cap H X next L) (hB : B ≤ H) (hBh : B ≤ hp) (hX : X.length < 10000) (hn0 : 0 ≤ next) (hn1 : next ≤ 10000) (key v : Int) :
    Calls Try.prog 48 #[.pointer (some ⟨hp, 0, none⟩), .int .i64 key, .int .i64 v] w (PushPost w B hp H X next key v) := by
  obtain ⟨i0, hi, hz0, hz1, hz2⟩ := info_parts info91
  have H1 := Lib.hid h
  have p0 : w.cell? ⟨hp, 0, none⟩ = some (.bool true) := (cell_block h.1).trans rfl
  have p1 : w.cell? ⟨hp, 1, none⟩ = some (.slice ao X.length cap) := (cell_block h.1).trans rfl
  have p3 : w.cell? ⟨hp, 3, none⟩ = some (.int .i64 next) := (cell_block h.1).trans rfl
  have f1 : w.frozen? ⟨hp, 1, none⟩ = false := by unfold World.frozen?; rw [h.1]; simp
  have f3 : w.frozen? ⟨hp, 3, none⟩ = false := by unfold World.frozen?; rw [h.1]; simp
  have hl1 : hp < w.heap.size := (Array.getElem?_eq_some_iff.1 h.1).1
  have HX := Lib.hid hX
  clear h hX
  go_enter Try.func48, Try.ntmps48
  go_upto_region 5 with fail
  have A1 := Lib.hid (H1.out.setNext (next + 1))
  have A2 := Lib.hid ((FrT.refl B hp w).setH hBh 3 (.int .i64 (next + 1)))
  obtain ⟨wa, hwa⟩ : ∃ wa, w.setCell ⟨hp, 3, none⟩ (.int .i64 (next + 1)) = wa := ⟨_, rfl⟩
  rw [hwa] at A1 A2 ⊢
  clear hwa p0 p1 p3 f1 f3
  have p1 : wa.cell? ⟨hp, 1, none⟩ = some (.slice ao X.length cap) := (cell_block A1.out.1).trans rfl
  have f1 : wa.frozen? ⟨hp, 1, none⟩ = false := by unfold World.frozen?; rw [A1.out.1]; simp
  have hl2 : hp < wa.heap.size := (Array.getElem?_eq_some_iff.1 A1.out.1).1
  have OWN := Lib.hid (A1.out.2.1.alloc (.cells #[.int .i64 key, .int .i64 next, .int .i64 v] 91))
  have HBS : Hid (B ≤ (wa.alloc (.cells #[.int .i64 key, .int .i64 next, .int .i64 v] 91)).heap.size) := Lib.hid (by simp; omega)
  have CEL : Hid (∀ (j : Nat) (u : Value), [Value.int .i64 key, .int .i64 next, .int .i64 v][j]? = some u → (wa.alloc (.cells #[.int .i64 key, .int .i64 next, .int .i64 v] 91)).cell? ((⟨wa.heap.size, 0, none⟩ : Addr).add j) = some u) := Lib.hid (by
    intro j u hu
    have hj : j < 3 := (List.getElem?_eq_some_iff.1 hu).1
    match j, hj, hu with
    | 0, _, hu => simp at hu; subst hu; simp [Addr.add]
    | 1, _, hu => simp at hu; subst hu; simp [Addr.add]
    | 2, _, hu => simp at hu; subst hu; simp [Addr.add])
  have ONE : Hid (∀ u ∈ [Value.int .i64 key, .int .i64 next, .int .i64 v], u.oneCell' = true) := Lib.hid (by
    intro u hu
    simp at hu
    rcases hu with rfl | rfl | rfl <;> rfl)
  have GH : Hid ((wa.alloc (.cells #[.int .i64 key, .int .i64 next, .int .i64 v] 91)).heap[hp]? = some (.cells #[.bool true, .slice ao X.length cap, .map (some H), .int .i64 (next + 1)] 84 (0, 0))) := Lib.hid (((MapKept.heap_alloc wa _).2 _ hl2).trans A1.out.1)
  have GM := Lib.hid (A1.out.2.2.alloc (.cells #[.int .i64 key, .int .i64 next, .int .i64 v] 91))
  have AF := Lib.hid (A2.out.alloc (by omega) (.cells #[.int .i64 key, .int .i64 next, .int .i64 v] 91))
  go_upto_region 6 with (refine wpList_append_lies _ rfl (.tmp 32) (.tmp 37) 82 rfl B 91 i0 _ 3 24 und82 hi hz0 hz1 hz2 rfl (by decide) (.slice ao X.length cap) X.length (thCells X) rfl OWN.out ⟨wa.heap.size, 0, none⟩ 1 1 [Value.int .i64 key, .int .i64 next, .int .i64 v] rfl rfl CEL.out ONE.out (by decide) (by have := HX.out; unfold maxLen; omega) (by have := HX.out; omega) HBS.out _ rfl ?_; intro g cap' w1 hown1 hgrow1 hor1 hlt1; have G1 := (hgrow1.block hp (by simp; omega) (own_neh OWN.out GH.out (by decide))).trans GH.out; have k0 : w1.cell? ⟨hp, 1, none⟩ = some (.slice ao X.length cap) := (cell_block G1).trans rfl; have k1 : w1.frozen? ⟨hp, 1, none⟩ = false := (by unfold World.frozen?; rw [G1]; simp))
  have hM1 : MapAt keyI w1 H L := by
    refine GM.out.of_block (hgrow1.block H GM.out.lt fun e => ?_)
    obtain ⟨es, c, hmb, _⟩ := GM.out
    rcases OWN.out.2 with ⟨e5, _⟩ | ⟨g5, cap5, cur5, e5, _, hgg, _⟩
    · rw [e5] at e; simp [Value.ownBlock] at e
    · rw [e5] at e
      simp [Value.ownBlock] at e
      subst e
      rw [hgg] at hmb; cases hmb
  have hz5 : HpO (w1.setCell ⟨hp, 1, none⟩ (.slice (some ⟨g, 0, none⟩) (X.length + 1) cap')) B hp (some ⟨g, 0, none⟩) cap' H (X ++ [(key, next, v)]) (next + 1) L := by
    refine ⟨?_, ?_, hM1.setCell (x := ⟨hp, 1, none⟩) (map_ne hM1 G1) _⟩
    · rw [setc_at G1]; simp
    · rw [thCells_app]
      simp only [List.length_append, List.length_singleton]
      exact own_seth hown1 G1 (by decide) _ _
  have hf5 := ((AF.out.grown OWN.out hgrow1 HBS.out).setH hBh 1 (.slice (some ⟨g, 0, none⟩) (X.length + 1) cap'))
  have HZ5 := Lib.hid hz5; have HF5 := Lib.hid hf5
  obtain ⟨wb, hwb⟩ : ∃ wb, w1.setCell ⟨hp, 1, none⟩ (.slice (some ⟨g, 0, none⟩) (X.length + 1) cap') = wb := ⟨_, rfl⟩
  rw [hwb] at HZ5 HF5 ⊢
  clear hwb hz5 hf5 hM1 G1 k0 k1 hown1 hgrow1 hor1 hlt1 p1 f1
  have p1 : wb.cell? ⟨hp, 1, none⟩ = some (.slice (some ⟨g, 0, none⟩) (X.length + 1) cap') := by
    have := (cell_block (o := 1) HZ5.out.1)
    rw [List.length_append] at this
    exact this.trans rfl
  have hx1 : X.length ≤ 10000 := by have := HX.out; omega
  go_wp2_with fail
  refine (rise_any wb B hp g cap' H (X ++ [(key, next, v)]) (next + 1) L HZ5.out hB (by have := HX.out; simp; omega) X.length (by simp)).mono ?_
  rintro e w6 hp6
  obtain ⟨rfl, ⟨X', L', hperm, hz6⟩, hf6⟩ := hp6
  have HZ6 := Lib.hid hz6; have HP6 := Lib.hid hperm
  have HF6 := Lib.hid (HF5.out.fr HZ5.out.2.1 hf6)
  clear hz6 hf6 hperm p1
  go_wp2_with fail
  go_ret
  exact ⟨rfl, ⟨_, _, X', L', HP6.out, HZ6.out⟩, HF6.out⟩
end Go.Proofs.Ytkpgnopimnamfaa
namespace Go.Proofs.Ytkpgnopimnamfaa
open Go.ChangeShapes Go.WideShapes Go.ChangeAt Go.RowKit
theorem results_four {fn : Func} {t u v x : Tmp} (h : fn.results = #[.tmp t, .tmp u, .tmp v, .tmp x]) (tmps : Array Value) (P : Program) (w : World) :
    (results fn tmps).run P w = .ok (.tuple #[tmps.getD t undef, tmps.getD u undef, tmps.getD v undef, tmps.getD x undef]) w := by simp [results, h]
theorem peek_none (w : World) (B hp cap H : Nat) (ao : Option Addr) (next : Int) (L : List (Int × Value)) (h : HpO w B hp ao cap H [] next L) :
    Calls Try.prog 49 #[.pointer (some ⟨hp, 0, none⟩)] w fun e w' => e = .returned (.tuple #[.int .i64 0, .int .i64 0, .int .i64 0, .bool false]) ∧ w = w' := by
  have hl := len_any w B hp cap H ao [] next L h
  have HL := Lib.hid hl; clear h hl
  go_enter Try.func49, Try.ntmps49
  go_wp2_with fail
  refine HL.out.mono ?_
  rintro e w' ⟨rfl, rfl⟩
  go_wp2_with fail
  refine bodyPost_ret (results_four rfl _ _ _) rfl ?_
  exact ⟨rfl, rfl⟩
set_option maxHeartbeats 1000000 in
theorem peek_some (w : World) (B hp g cap H : Nat) (x0 x1 x2 : Int) (X : List Th) (next : Int) (L : List (Int × Value)) (h : HpO w B hp (some ⟨g, 0, none⟩) cap H ((x0, x1, x2) :: X) next L) (hX : X.length ≤ 10000) :
    Calls Try.prog 49 #[.pointer (some ⟨hp, 0, none⟩)] w fun e w' => e = .returned (.tuple #[.int .i64 x0, .int .i64 x2, .int .i64 x1, .bool true]) ∧ Below w.heap.size w w' := by
  have hl := len_any w B hp cap H _ _ next L h
  have HL := Lib.hid hl
  have p1 : w.cell? ⟨hp, 1, none⟩ = some (.slice (some ⟨g, 0, none⟩) ((x0, x1, x2) :: X).length cap) := (cell_block h.1).trans rfl
  obtain ⟨c0, c1, c2⟩ := h.cells (i := 0) rfl
  simp only [Nat.zero_mul, Nat.zero_add] at c0 c1 c2
  obtain ⟨n, hn⟩ : ∃ n, ((x0, x1, x2) :: X).length = n := ⟨_, rfl⟩
  rw [hn] at p1 HL
  have hn0 : 0 < n := by rw [← hn]; simp
  have hn5 : n ≤ 10001 := by rw [← hn]; simp; omega
  have hnn : ¬ (n : Int) = 0 := by omega
  have lg := h.row.2.1
  have lh := h.row.2.2.1
  clear h hl hn hX
  go_enter Try.func49, Try.ntmps49
  go_wp2_with fail
  refine HL.out.mono ?_
  rintro e w' ⟨rfl, rfl⟩
  go_wp2_with fail
  go_quiet (fail)
  go_wp2_with fail
  refine bodyPost_ret (results_four rfl _ _ _) rfl ?_
  have hb := (Below.refl w.heap.size w).alloc (Nat.le_refl _) (.cells #[.int .i64 x0, .int .i64 x1, .int .i64 x2] 91)
  exact ⟨rfl, ⟨hb.os, hb.tape, hb.output, hb.size, hb.block⟩⟩
end Go.Proofs.Ytkpgnopimnamfaa
namespace Go.Proofs.Ytkpgnopimnamfaa
open Go.ChangeShapes Go.WideShapes Go.ChangeAt Go.RowKit
theorem thCells_take (X : List Th) : ∀ m, (thCells X).take (m * 3) = thCells (X.take m) := by
  induction X with
  | nil => intro m; simp [thCells]
  | cons x X ih =>
    intro m
    have e : ∀ z Y, thCells (z :: Y) = thOf z ++ thCells Y := fun z Y => by simp [thCells]
    cases m with
    | zero => simp [thCells]
    | succ m =>
      have l : (thOf x).length = 3 := rfl
      rw [e, List.take_succ_cons, e, List.take_append, l]
      have e1 : (m + 1) * 3 - 3 = m * 3 := by omega
      rw [e1, ih m, List.take_of_length_le (by rw [l]; omega)]
theorem own_trunc {w : World} {B g cap n m : Nat} {X : List Th} (h : w.ownsRow B 91 3 (.slice (some ⟨g, 0, none⟩) n cap) n (thCells X)) (hm : m ≤ n) (hX : X.length = n) : w.ownsRow B 91 3 (.slice (some ⟨g, 0, none⟩) m cap) m (thCells (X.take m)) := by
  rcases h.2 with ⟨e, _⟩ | ⟨g', cap', cur, e, hb, hg, hc, hmx, hs, ht⟩
  · cases e
  · cases e
    refine ⟨by rw [thCells_len, List.length_take]; congr 1; omega, .inr ⟨g, cap, cur, rfl, hb, hg, by omega, hmx, hs, ?_⟩⟩
    rw [← thCells_take, ← ht, List.take_take]
    congr 1; omega
theorem hp_trunc {w : World} {B hp g cap H m : Nat} {X : List Th} {next : Int} {L : List (Int × Value)} (h : HpO w B hp (some ⟨g, 0, none⟩) cap H X next L) (hBh : B ≤ hp) (hX : X.length = m + 1) :
    HpO ((((w.setCell ⟨g, m * 3, none⟩ (.int .i64 0)).setCell ⟨g, m * 3 + 1, none⟩ (.int .i64 0)).setCell ⟨g, m * 3 + 2, none⟩ (.int .i64 0)).setCell ⟨hp, 1, none⟩ (.slice (some ⟨g, 0, none⟩) m cap)) B hp (some ⟨g, 0, none⟩) cap H (X.take m) next L ∧
    FrT B hp w ((((w.setCell ⟨g, m * 3, none⟩ (.int .i64 0)).setCell ⟨g, m * 3 + 1, none⟩ (.int .i64 0)).setCell ⟨g, m * 3 + 2, none⟩ (.int .i64 0)).setCell ⟨hp, 1, none⟩ (.slice (some ⟨g, 0, none⟩) m cap)) := by
  obtain ⟨hBg, lg, lh, hne⟩ := h.row
  rcases h.2.1.2 with ⟨e, _⟩ | ⟨g', cap', cur, e, hb, hg, hc, hm, hs, ht⟩
  · cases e
  · cases e
    have h3 := own_set3 (i := m) hg h.2.1 (by omega) 0 0 0
    have hgH := map_ne h.2.2 hg
    have hM3 := ((h.2.2.setCell (x := ⟨g, m * 3, none⟩) hgH (.int .i64 0)).setCell (x := ⟨g, m * 3 + 1, none⟩) hgH (.int .i64 0)).setCell (x := ⟨g, m * 3 + 2, none⟩) hgH (.int .i64 0)
    have hG3 : (((w.setCell ⟨g, m * 3, none⟩ (.int .i64 0)).setCell ⟨g, m * 3 + 1, none⟩ (.int .i64 0)).setCell ⟨g, m * 3 + 2, none⟩ (.int .i64 0)).heap[hp]? = some (.cells #[.bool true, .slice (some ⟨g, 0, none⟩) X.length cap, .map (some H), .int .i64 next] 84 (0, 0)) :=
      ((Below.heap_setCell _ _ _ _ (Ne.symm hne)).trans ((Below.heap_setCell _ _ _ _ (Ne.symm hne)).trans (Below.heap_setCell _ _ _ _ (Ne.symm hne)))).trans h.1
    have hlen : (X.take m).length = m := by rw [List.length_take]; omega
    have hset : (X.set m (0, 0, 0)).take m = X.take m := by rw [List.take_set, List.set_eq_of_length_le (by rw [hlen]; omega)]
    refine ⟨⟨?_, ?_, hM3.setCell (x := ⟨hp, 1, none⟩) (map_ne hM3 hG3) _⟩, ?_⟩
    · rw [setc_at hG3, hlen]; rfl
    · have h4 := own_trunc h3 (m := m) (by rw [List.length_set]; omega) rfl
      rw [hset] at h4
      rw [hlen]
      exact own_seth h4 hG3 (by decide) _ _
    · have f1 : FrT B hp w (((w.setCell ⟨g, m * 3, none⟩ (.int .i64 0)).setCell ⟨g, m * 3 + 1, none⟩ (.int .i64 0)).setCell ⟨g, m * 3 + 2, none⟩ (.int .i64 0)) :=
        (FrT.refl B hp w).fr h.2.1 ((((Fr.refl B g w).set hBg _ _).set hBg _ _).set hBg _ _)
      exact f1.trans ((FrT.refl B hp _).setH hBh 1 _)
theorem drop_perm {X : List Th} {m : Nat} {x y : Th} (hX : X.length = m + 1) (hm : 0 < m) (hx : X[0]? = some x) (hy : X[m]? = some y) : List.Perm (x :: (X.take m).set 0 y) X := by
  cases X with
  | nil => simp at hX
  | cons z X =>
    obtain rfl : z = x := by simpa using hx
    obtain ⟨k, rfl⟩ : ∃ k, m = k + 1 := ⟨m - 1, by omega⟩
    simp only [List.length_cons] at hX
    have hy2 : X[k]? = some y := by simpa using hy
    obtain ⟨hk, rfl⟩ := List.getElem?_eq_some_iff.1 hy2
    have e : X = X.take k ++ [X[k]] := by
      rw [← List.take_succ_eq_append_getElem hk, List.take_of_length_le (by omega)]
    simp only [List.take_succ_cons, List.set_cons_zero]
    have : List.Perm (X[k] :: X.take k) X := by
      have h2 : List.Perm (X[k] :: X.take k) (X.take k ++ [X[k]]) := (List.perm_append_singleton _ _).symm
      rw [← e] at h2
      exact h2
    exact this.cons z
def DropPost (w : World) (B hp H : Nat) (X : List Th) (next : Int) (x : Th) (e : Ending) (w' : World) : Prop :=
  e = .returned (.tuple #[]) ∧ (∃ (ao' : Option Addr) (cap' : Nat) (X' : List Th) (L' : List (Int × Value)), List.Perm (x :: X') X ∧ HpO w' B hp ao' cap' H X' next L') ∧ FrT B hp w w'
theorem box_upd {w w' : World} {H k : Nat} {c : Array Value} {t : TypeId} {fz : Nat × Nat} {L : List (Int × Value)} (hk : w.heap[k]? = some (.cells c t fz)) (hu : Upd H w w') (hm : MapAt keyI w H L) : w'.heap[k]? = some (.cells c t fz) := (hu.block (Ne.symm (map_ne hm hk))).trans hk
theorem HpO.upd {w w' : World} {B hp cap H : Nat} {ao : Option Addr} {X : List Th} {next : Int} {L L' : List (Int × Value)} (h : HpO w B hp ao cap H X next L) (hu : Upd H w w') (hm : MapAt keyI w' H L') : HpO w' B hp ao cap H X next L' :=
  ⟨box_upd h.1 hu h.2.2, own_updm h.2.1 hu h.2.2, hm⟩
theorem FrT.upd {B hp H : Nat} {w w' w'' : World} {L : List (Int × Value)} (h : FrT B hp w w') (hu : Upd H w' w'') (hB : B ≤ H) (hm : MapAt keyI w' H L) : FrT B hp w w'' :=
  h.trans ⟨hu.below (Below.refl _ _) hB, fun _ _ _ _ hk _ _ => box_upd hk hu hm⟩
theorem FrT.drew {B hp : Nat} {w w' : World} (h : FrT B hp w w') : FrT B hp w w'.drew := ⟨⟨h.1.os, h.1.tape, h.1.output, h.1.size, h.1.block⟩, h.2⟩
set_option maxRecDepth 100000 in
set_option maxHeartbeats 2000000 in
theorem drop_any (w : World) (B hp g cap H : Nat) (X : List Th) (m : Nat) (hXm : X.length = m + 1) (next : Int) (L : List (Int × Value)) (h : HpO w B hp (some ⟨g, 0, none⟩) cap H X next L) (hB : B ≤ H) (hBh : B ≤ hp) (hm5 : m ≤ 9000) (x0 x1 x2 : Int) (hx : X[0]? = some (x0, x1, x2)) :
    Calls Try.prog 50 #[.pointer (some ⟨hp, 0, none⟩), .int .i64 0] w (DropPost w B hp H X next (x0, x1, x2)) := by
  have H1 := Lib.hid h
  obtain ⟨c0, c1, c2⟩ := h.cells hx
  simp only [Nat.zero_mul, Nat.zero_add] at c0 c1 c2
  obtain ⟨⟨y0, y1, y2⟩, hy⟩ : ∃ y, X[m]? = some y := ⟨_, List.getElem?_eq_some_iff.2 ⟨by omega, rfl⟩⟩
  obtain ⟨hBg, lg, lh, hne⟩ := h.row
  have p1 : w.cell? ⟨hp, 1, none⟩ = some (.slice (some ⟨g, 0, none⟩) (m + 1) cap) := by
    have := cell_block (o := 1) h.1
    rw [hXm] at this
    exact this.trans rfl
  have HX := Lib.hid hx; have HY := Lib.hid hy; have HXM := Lib.hid hXm
  clear h hx hy hXm
  go_enter Try.func50, Try.ntmps50
  go_upto_region 2 with fail
  have XB : Hid ((w.alloc (.cells #[.int .i64 x0, .int .i64 x1, .int .i64 x2] 91)).heap[w.heap.size]? = some (.cells #[.int .i64 x0, .int .i64 x1, .int .i64 x2] 91 (0, 0))) := Lib.hid (MapKept.heap_alloc w _).1
  have X0 : Hid (HpO (w.alloc (.cells #[.int .i64 x0, .int .i64 x1, .int .i64 x2] 91)) B hp (some ⟨g, 0, none⟩) cap H X next L) := Lib.hid (H1.out.below ((Below.refl _ w).alloc (Nat.le_refl _) _))
  have XF : Hid (FrT B hp w (w.alloc (.cells #[.int .i64 x0, .int .i64 x1, .int .i64 x2] 91))) := Lib.hid ((FrT.refl B hp w).alloc (by omega) _)
  obtain ⟨wa, hwa⟩ : ∃ wa, w.alloc (.cells #[.int .i64 x0, .int .i64 x1, .int .i64 x2] 91) = wa := ⟨_, rfl⟩
  rw [hwa] at XB X0 XF ⊢
  clear hwa p1 c0 c1 c2
  have r2 : wa.cell? ⟨hp, 2, none⟩ = some (.map (some H)) := (cell_block X0.out.1).trans rfl
  have k1 : wa.cell? ⟨w.heap.size, 1, none⟩ = some (.int .i64 x1) := (cell_block XB.out).trans rfl
  refine wp_region_still_tail 6 (by kernel_rfl) (by kernel_rfl) ?_
  simp only [List.take_succ_cons, List.take_zero, List.drop_succ_cons, List.drop_zero]
  repeat still_step
  refine wpStill_nil ?_
  change wpList _ _ _ _ _ wa.drew
  have WM : Hid (MapAt keyI wa.drew H L) := Lib.hid X0.out.2.2
  go_upto_region 3 with (refine wpList_del _ rfl (.tmp 23) (.tmp 25) 3 rfl und3 und81 kind_i64 H L rfl WM.out x1 rfl ?_; intro wb hMb hUb)
  have hu2 : Upd H wa.drew wb := hUb
  have B0 := Lib.hid (HpO.upd (w := wa.drew) X0.out hu2 hMb)
  have BF := Lib.hid ((FrT.drew XF.out).upd hu2 hB WM.out)
  clear hMb hUb hu2 r2 k1
  have q1 : wb.cell? ⟨hp, 1, none⟩ = some (.slice (some ⟨g, 0, none⟩) (m + 1) cap) := by
    have := cell_block (o := 1) B0.out.1
    rw [HXM.out] at this
    exact this.trans rfl
  obtain ⟨d0, d1, d2⟩ := B0.out.cells HY.out
  dsimp only at d0 d1 d2
  have hbl1 : hp < wb.heap.size := B0.out.row.2.2.1
  have hbl2 : g < wb.heap.size := B0.out.row.2.1
  go_upto_region 4 with fail
  have YB : Hid ((wb.alloc (.cells #[.int .i64 y0, .int .i64 y1, .int .i64 y2] 91)).heap[wb.heap.size]? = some (.cells #[.int .i64 y0, .int .i64 y1, .int .i64 y2] 91 (0, 0))) := Lib.hid (MapKept.heap_alloc wb _).1
  have Y0 : Hid (HpO (wb.alloc (.cells #[.int .i64 y0, .int .i64 y1, .int .i64 y2] 91)) B hp (some ⟨g, 0, none⟩) cap H X next (rm L x1)) := Lib.hid (B0.out.below ((Below.refl _ wb).alloc (Nat.le_refl _) _))
  have YF : Hid (FrT B hp w (wb.alloc (.cells #[.int .i64 y0, .int .i64 y1, .int .i64 y2] 91))) := Lib.hid (BF.out.alloc (by omega) _)
  obtain ⟨wd, hwd⟩ : ∃ wd, wb.alloc (.cells #[.int .i64 y0, .int .i64 y1, .int .i64 y2] 91) = wd := ⟨_, rfl⟩
  rw [hwd] at YB Y0 YF ⊢
  clear hwd q1 d0 d1 d2
  have q1 : wd.cell? ⟨hp, 1, none⟩ = some (.slice (some ⟨g, 0, none⟩) (m + 1) cap) := by
    have := cell_block (o := 1) Y0.out.1
    rw [HXM.out] at this
    exact this.trans rfl
  have f1 : wd.frozen? ⟨hp, 1, none⟩ = false := by unfold World.frozen?; rw [Y0.out.1]; simp
  obtain ⟨d0, d1, d2⟩ := Y0.out.cells HY.out
  dsimp only at d0 d1 d2
  have hfz : ∀ j, wd.frozen? ⟨g, j, none⟩ = false := fun j => by
    rcases Y0.out.2.1.2 with ⟨e, _⟩ | ⟨g', cp, cur, e, _, hgg, _⟩
    · cases e
    · cases e; unfold World.frozen?; rw [hgg]; simp
  have f2 := hfz (m * 3)
  have f3 := hfz (m * 3 + 1)
  have f4 := hfz (m * 3 + 2)
  have hbl3 : wb.heap.size < wd.heap.size := (Array.getElem?_eq_some_iff.1 YB.out).1
  have hne2 : ¬ hp = g := Ne.symm hne
  have hcap : m ≤ cap := by
    rcases Y0.out.2.1.2 with ⟨e, _⟩ | ⟨g', cp, cur, e, _, _, hc, _⟩
    · cases e
    · cases e; have := HXM.out; omega
  clear hfz
  go_upto_region 6 with fail
  have ht := hp_trunc Y0.out hBh HXM.out
  have TB : Hid (((((wd.setCell ⟨g, m * 3, none⟩ (.int .i64 0)).setCell ⟨g, m * 3 + 1, none⟩ (.int .i64 0)).setCell ⟨g, m * 3 + 2, none⟩ (.int .i64 0)).setCell ⟨hp, 1, none⟩ (.slice (some ⟨g, 0, none⟩) m cap)).heap[wb.heap.size]? = some (.cells #[.int .i64 y0, .int .i64 y1, .int .i64 y2] 91 (0, 0))) := Lib.hid
    (((Below.heap_setCell _ _ _ _ (by simp; omega)).trans ((Below.heap_setCell _ _ _ _ (by simp; omega)).trans ((Below.heap_setCell _ _ _ _ (by simp; omega)).trans (Below.heap_setCell _ _ _ _ (by simp; omega))))).trans YB.out)
  have T0 := Lib.hid ht.1
  have TF := Lib.hid (YF.out.trans ht.2)
  obtain ⟨we, hwe⟩ : ∃ we, (((wd.setCell ⟨g, m * 3, none⟩ (.int .i64 0)).setCell ⟨g, m * 3 + 1, none⟩ (.int .i64 0)).setCell ⟨g, m * 3 + 2, none⟩ (.int .i64 0)).setCell ⟨hp, 1, none⟩ (.slice (some ⟨g, 0, none⟩) m cap) = we := ⟨_, rfl⟩
  rw [hwe] at TB T0 TF ⊢
  clear hwe ht q1 f1 f2 f3 f4 d0 d1 d2
  by_cases hm0 : m = 0
  · subst hm0
    go_wp2_with fail
    go_end0
    have hX1 : X = [(x0, x1, x2)] := by
      have h1 := HXM.out; have h2 := HX.out
      match X, h1, h2 with
      | [z], _, h2 => simp at h2; rw [h2]
    exact ⟨rfl, ⟨_, cap, [], _, by rw [hX1], by have := T0.out; simpa using this⟩, TF.out⟩
  · have hmb : ((0 : Int) == (m : Int)) = false := by simp; omega
    have hmi : ¬ (0 : Int) = (m : Int) := by omega
    have k0 : we.cell? ⟨wb.heap.size, 0, none⟩ = some (.int .i64 y0) := (cell_block TB.out).trans rfl
    have k1 : we.cell? ⟨wb.heap.size, 1, none⟩ = some (.int .i64 y1) := (cell_block TB.out).trans rfl
    have k2 : we.cell? ⟨wb.heap.size, 2, none⟩ = some (.int .i64 y2) := (cell_block TB.out).trans rfl
    have hlen : (X.take m).length = m := by have := HXM.out; rw [List.length_take]; omega
    have HLEN := Lib.hid hlen; clear hlen
    go_wp2_with fail
    refine (lay_any we B hp g cap H (X.take m) next (rm L x1) T0.out hB (by rw [HLEN.out]; omega) 0 (by rw [HLEN.out]; omega) y0 y1 y2).mono ?_
    rintro e w5 hp5
    obtain ⟨rfl, ⟨L5, hz5, _⟩, hf5⟩ := hp5
    have HZ5 := Lib.hid hz5
    have HF5 := Lib.hid (TF.out.fr T0.out.2.1 hf5)
    have B5 := Lib.hid (hf5.heap TB.out (by omega))
    clear hz5 hf5 k0 k1 k2
    go_wp2_with fail
    refine (sink_any w5 B hp g cap H ((X.take m).set 0 (y0, y1, y2)) next L5 HZ5.out hB (by rw [List.length_set, HLEN.out]; omega) 0 (by rw [List.length_set, HLEN.out]; omega) y0 y1 y2 (by rw [List.getElem?_set_self (by rw [HLEN.out]; omega)])).mono ?_
    rintro e w6 hp6
    obtain ⟨rfl, ⟨X6, L6, i6, hperm6, hz6, hi6, hl6⟩, hf6⟩ := hp6
    have HZ6 := Lib.hid hz6; have HP6 := Lib.hid hperm6; have HL6 := Lib.hid hl6; have HI6 := Lib.hid hi6
    have HF6 := Lib.hid (HF5.out.fr HZ5.out.2.1 hf6)
    have B6 := Lib.hid (hf6.heap B5.out (by omega))
    have r2 : w6.cell? ⟨hp, 2, none⟩ = some (.map (some H)) := (cell_block hz6.1).trans rfl
    have k1 : w6.cell? ⟨wb.heap.size, 1, none⟩ = some (.int .i64 y1) := (cell_block B6.out).trans rfl
    have hlook : (Instr.lookup 81 (.map (some H)) (.int .i64 y1) false).run Try.prog w6.drew = .ok (.int .i64 i6) w6.drew := get_run (w := w6.drew) und3 und81 kind_i64 hz6.2.2 y1 hl6
    clear hz6 hperm6 hl6 hf6 hi6
    go_upto_region 9 with fail
    refine wp_region_still_tail 8 (by kernel_rfl) (by kernel_rfl) ?_
    simp only [List.take_succ_cons, List.take_zero, List.drop_succ_cons, List.drop_zero]
    repeat still_step
    refine wpStill_nil ?_
    change wpList _ _ _ _ _ w6.drew
    go_wp2_with fail
    refine (rise_any _ B hp g cap H X6 next L6 ?h hB (by have := HP6.out.length_eq; rw [List.length_set, HLEN.out] at this; omega) i6 HI6.out).mono ?_
    case h => exact HZ6.out
    rintro e w7 hp7
    obtain ⟨rfl, ⟨X7, L7, hperm7, hz7⟩, hf7⟩ := hp7
    have HZ7 := Lib.hid hz7; have HP7 := Lib.hid hperm7
    have HF7 := Lib.hid ((FrT.drew HF6.out).fr (w' := w6.drew) HZ6.out.2.1 hf7)
    clear hz7 hperm7 hf7
    go_wp2_with fail
    go_end0
    exact ⟨rfl, ⟨_, cap, X7, L7, ((HP7.out.trans HP6.out).cons _).trans (drop_perm HXM.out (by omega) HX.out HY.out), HZ7.out⟩, HF7.out⟩
end Go.Proofs.Ytkpgnopimnamfaa
namespace Go.Proofs.Ytkpgnopimnamfaa
open Go.ChangeShapes Go.WideShapes Go.ChangeAt Go.RowKit
theorem pop_none (w : World) (B hp cap H : Nat) (ao : Option Addr) (next : Int) (L : List (Int × Value)) (h : HpO w B hp ao cap H [] next L) :
    Calls Try.prog 37 #[.pointer (some ⟨hp, 0, none⟩)] w fun e w' => e = .returned (.tuple #[.int .i64 0, .int .i64 0, .int .i64 0, .bool false]) ∧ w = w' := by
  have HL := Lib.hid (peek_none w B hp cap H ao next L h); clear h
  go_enter Try.func37, Try.ntmps37
  go_wp2_with fail
  refine HL.out.mono ?_
  rintro e w' ⟨rfl, rfl⟩
  go_wp2_with fail
  refine bodyPost_ret (results_four rfl _ _ _) rfl ?_
  exact ⟨rfl, rfl⟩
def PopPost (w : World) (B hp H : Nat) (X : List Th) (next : Int) (e : Ending) (w' : World) : Prop :=
  ∃ (x : Th) (ao' : Option Addr) (cap' : Nat) (X' : List Th) (L' : List (Int × Value)), e = .returned (.tuple #[.int .i64 x.1, .int .i64 x.2.2, .int .i64 x.2.1, .bool true]) ∧ List.Perm (x :: X') X ∧ HpO w' B hp ao' cap' H X' next L' ∧ FrT B hp w w'
theorem pop_some (w : World) (B hp cap H : Nat) (ao : Option Addr) (x : Th) (X : List Th) (next : Int) (L : List (Int × Value)) (h : HpO w B hp ao cap H (x :: X) next L) (hB : B ≤ H) (hBh : B ≤ hp) (hX : X.length ≤ 9000) :
    Calls Try.prog 37 #[.pointer (some ⟨hp, 0, none⟩)] w (PopPost w B hp H (x :: X) next) := by
  obtain ⟨g, rfl⟩ : ∃ g, ao = some ⟨g, 0, none⟩ := by
    rcases h.2.1.2 with ⟨e, h0⟩ | ⟨g', cap', cur, e, _⟩
    · simp at h0
    · cases e; exact ⟨g', rfl⟩
  obtain ⟨x0, x1, x2⟩ := x
  have HL := Lib.hid (peek_some w B hp g cap H x0 x1 x2 X next L h (by omega))
  have HH := Lib.hid h
  have HX := Lib.hid hX
  clear h hX
  go_enter Try.func37, Try.ntmps37
  go_wp2_with fail
  refine HL.out.mono ?_
  rintro e w1 ⟨rfl, hb⟩
  have H1 := Lib.hid (HH.out.below hb)
  have HF := Lib.hid (FrT.of_below (B := B) (hp := hp) hb (by have := HH.out.row; omega))
  clear hb
  go_wp2_with fail
  refine (drop_any w1 B hp g cap H ((x0, x1, x2) :: X) X.length rfl next L H1.out hB hBh HX.out x0 x1 x2 rfl).mono ?_
  rintro e w2 hp2
  obtain ⟨rfl, ⟨ao', cap', X', L', hperm, hz⟩, hf⟩ := hp2
  have HZ := Lib.hid hz; have HP := Lib.hid hperm; have HF2 := Lib.hid (HF.out.trans hf)
  clear hz hperm hf
  go_wp2_with fail
  refine bodyPost_ret (results_four rfl _ _ _) rfl ?_
  exact ⟨(x0, x1, x2), ao', cap', X', L', rfl, HP.out, HZ.out, HF2.out⟩
end Go.Proofs.Ytkpgnopimnamfaa
