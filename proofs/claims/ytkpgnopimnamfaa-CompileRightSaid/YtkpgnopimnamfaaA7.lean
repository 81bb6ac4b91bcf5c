/- tree.Check's walk. -/
import Derived.Test.YtkpgnopimnamfaaA6
namespace Go.Proofs.Ytkpgnopimnamfaa
open Go.ChangeShapes Go.WideShapes Go.ChangeAt Go.RowKit
theorem good_eq {op : Int} {t p : Nat} {l g : Int} (h : formT op = some (t, l, g, p)) (kids num : Int) (text : ByteArray) (q : Bool) :
    good (op, kids, num, text) q = (q && textB t text && decide (l ≤ kids) && decide (kids ≤ g) && (op == 23 || num == 0) && decide (0 ≤ num)) := by
  unfold good; simp only [h]
def Ord (bt H bf bw bd bk : Nat) : Prop := bt < H ∧ H < bf ∧ bf < bw ∧ bw < bd ∧ bd < bk
/-- What the walk finds in the world. -/
def Cx (w : World) (pa : Option Addr) (cap bt H bf bw bd bk : Nat) (T : List Tw) (wrong deep : Int) : Prop :=
  Boxed w bt 23 (.slice pa T.length cap) ∧ Boxed w bw 3 (.int .i64 wrong) ∧ Boxed w bf 72 (.map (some H)) ∧ Boxed w bd 3 (.int .i64 deep) ∧ Boxed w bk 74 (.func (.func 31) #[] #[pt bt, pt bw, pt bf, pt bd, pt bk]) ∧ Forms w H ∧ TreeAt w pa bt T
/-- The blocks that it writes. -/
def CW (bw bd k : Nat) : Prop := k = bw ∨ k = bd
theorem Forms.of_block {w w' : World} {H : Nat} (h : Forms w H) (e : w'.heap[H]? = w.heap[H]?) : Forms w' H := by
  obtain ⟨L, hM, hL⟩ := h; exact ⟨L, hM.of_block e, hL⟩
theorem Forms.lt {w : World} {H : Nat} (h : Forms w H) : H < w.heap.size := by obtain ⟨L, hM, _⟩ := h; exact hM.lt
section
variable {w w' : World} {pa : Option Addr} {cap bt H bf bw bd bk : Nat} {T : List Tw} {wrong deep : Int}
theorem Cx.up {S : Nat → Prop} (h : Cx w pa cap bt H bf bw bd bk T wrong deep) (ho : Ord bt H bf bw bd bk) (hs : Sav S w w') (hS : ∀ k, S k → bk < k) : Cx w' pa cap bt H bf bw bd bk T wrong deep := by
  obtain ⟨b1, b2, b3, b4, b5, hF, hA⟩ := h
  obtain ⟨o1, o2, o3, o4, o5⟩ := ho
  have n : ∀ k, k ≤ bk → ¬ S k := fun k hk s => by have := hS k s; omega
  exact ⟨hs.box b1 (n _ (by omega)), hs.box b2 (n _ (by omega)), hs.box b3 (n _ (by omega)), hs.box b4 (n _ (by omega)), hs.box b5 (n _ (by omega)), hF.of_block (hs.2 H hF.lt (n _ (by omega))), hA.sav hs (fun k s => by have := hS k s; omega)⟩
theorem Cx.setWrong (h : Cx w pa cap bt H bf bw bd bk T wrong deep) (ho : Ord bt H bf bw bd bk) (v : Int) : Cx (w.setCell ⟨bw, 0, none⟩ (.int .i64 v)) pa cap bt H bf bw bd bk T v deep := by
  obtain ⟨b1, b2, b3, b4, b5, hF, hA⟩ := h
  obtain ⟨o1, o2, o3, o4, o5⟩ := ho
  have hs : Sav (fun k => k = bw) w (w.setCell ⟨bw, 0, none⟩ (.int .i64 v)) := Sav.set (S := fun k => k = bw) (Sav.refl _ w) (x := ⟨bw, 0, none⟩) rfl _
  exact ⟨hs.box b1 (by omega), b2.set _, hs.box b3 (by omega), hs.box b4 (by omega), hs.box b5 (by omega), hF.of_block (hs.2 H hF.lt (by omega)), hA.sav hs (fun k s => by omega)⟩
theorem Cx.setDeep (h : Cx w pa cap bt H bf bw bd bk T wrong deep) (ho : Ord bt H bf bw bd bk) (v : Int) : Cx (w.setCell ⟨bd, 0, none⟩ (.int .i64 v)) pa cap bt H bf bw bd bk T wrong v := by
  obtain ⟨b1, b2, b3, b4, b5, hF, hA⟩ := h
  obtain ⟨o1, o2, o3, o4, o5⟩ := ho
  have hs : Sav (fun k => k = bd) w (w.setCell ⟨bd, 0, none⟩ (.int .i64 v)) := Sav.set (S := fun k => k = bd) (Sav.refl _ w) (x := ⟨bd, 0, none⟩) rfl _
  exact ⟨hs.box b1 (by omega), hs.box b2 (by omega), hs.box b3 (by omega), b4.set _, hs.box b5 (by omega), hF.of_block (hs.2 H hF.lt (by omega)), hA.sav hs (fun k s => by omega)⟩
end
/-- A place's test as a value: which function, what it captured, what it says. -/
def MayAt (w : World) (bk m : Nat) (caps : Array Value) (may : Int → Bool) : Prop :=
  (m = 33 ∧ caps = #[] ∧ ∀ op, may op = true) ∨
  (m = 32 ∧ ∃ bF bI bX p i n, caps = #[pt bF, pt bI, pt bX] ∧ PartAt w bF bI bX p i n ∧ (∀ op, may op = partB p i n op) ∧ bk < bF ∧ bk < bI ∧ bk < bX)
theorem may_enter {w : World} {bk m : Nat} {caps : Array Value} {may : Int → Bool} (h : MayAt w bk m caps may) (op : Int) (w' : World) :
    (callFunc m (#[Value.int .u8 op] ++ caps)).run Try.prog w' = .ok (.enter m (#[Value.int .u8 op] ++ caps)) w' := by
  rcases h with ⟨rfl, rfl, _⟩ | ⟨rfl, bF, bI, bX, p, i, n, rfl, _⟩ <;> kernel_rfl
theorem may_any {w : World} {bk m : Nat} {caps : Array Value} {may : Int → Bool} (h : MayAt w bk m caps may) (op : Int) :
    Calls Try.prog m (#[Value.int .u8 op] ++ caps) w fun e w' => e = .returned (.bool (may op)) ∧ w = w' := by
  rcases h with ⟨rfl, rfl, hm⟩ | ⟨rfl, bF, bI, bX, p, i, n, rfl, hp, hm, _⟩
  · rw [hm op]; exact true_any op w
  · rw [hm op]; exact part_any w bF bI bX p i n op hp
theorem text_enter {t : Nat} (ht : t = 39 ∨ t = 42 ∨ t = 45) (s : ByteArray) (w' : World) : (callFunc t #[Value.string s]).run Try.prog w' = .ok (.enter t #[Value.string s]) w' := by
  rcases ht with rfl | rfl | rfl <;> kernel_rfl
theorem block_sav {S : Nat → Prop} {w w' : World} (h : Sav S w w') {b : Nat} {o : Obj} (hb : w.heap[b]? = some o) (hs : ¬ S b) : w'.heap[b]? = some o := (h.2 b (Array.getElem?_eq_some_iff.1 hb).1 hs).trans hb
theorem PartAt.sav {S : Nat → Prop} {w w' : World} {bF bI bX p : Nat} {i n : Int} (h : PartAt w bF bI bX p i n) (hs : Sav S w w') (h1 : ¬ S bF) (h2 : ¬ S bI) (h3 : ¬ S bX) : PartAt w' bF bI bX p i n := by
  obtain ⟨⟨t, l, m, hF⟩, hI, ⟨x0, x2, x3, hX⟩, r⟩ := h
  exact ⟨⟨t, l, m, block_sav hs hF h1⟩, hs.box hI h2, ⟨x0, x2, x3, block_sav hs hX h3⟩, r⟩
theorem MayAt.sav {S : Nat → Prop} {w w' : World} {bk m : Nat} {caps : Array Value} {may : Int → Bool} (h : MayAt w bk m caps may) (hs : Sav S w w') (hS : ∀ k, S k → k ≤ bk) : MayAt w' bk m caps may := by
  rcases h with h | ⟨hm, bF, bI, bX, p, i, n, hc, hp, hq, h1, h2, h3⟩
  · exact .inl h
  · exact .inr ⟨hm, bF, bI, bX, p, i, n, hc, hp.sav hs (fun s => by have := hS _ s; omega) (fun s => by have := hS _ s; omega) (fun s => by have := hS _ s; omega), hq, h1, h2, h3⟩
theorem formT_text {op : Int} {t p : Nat} {l g : Int} (h : formT op = some (t, l, g, p)) : (t = 39 ∨ t = 42 ∨ t = 45) ∧ (p = 40 ∨ p = 41 ∨ p = 43 ∨ p = 44 ∨ p = 46 ∨ p = 47) ∧ 0 ≤ l ∧ g ≤ 2048 := by
  unfold formT at h
  by_cases h0 : op = 1
  · rw [if_pos h0] at h
    simp only [Option.some.injEq, Prod.mk.injEq] at h
    obtain ⟨rfl, rfl, rfl, rfl⟩ := h; decide
  rw [if_neg h0] at h
  by_cases h1 : op = 2 ∨ op = 26 ∨ op = 56
  · rw [if_pos h1] at h
    simp only [Option.some.injEq, Prod.mk.injEq] at h
    obtain ⟨rfl, rfl, rfl, rfl⟩ := h; decide
  rw [if_neg h1] at h
  by_cases h2 : op = 3
  · rw [if_pos h2] at h
    simp only [Option.some.injEq, Prod.mk.injEq] at h
    obtain ⟨rfl, rfl, rfl, rfl⟩ := h; decide
  rw [if_neg h2] at h
  by_cases h3 : op = 6
  · rw [if_pos h3] at h
    simp only [Option.some.injEq, Prod.mk.injEq] at h
    obtain ⟨rfl, rfl, rfl, rfl⟩ := h; decide
  rw [if_neg h3] at h
  by_cases h4 : op = 7
  · rw [if_pos h4] at h
    simp only [Option.some.injEq, Prod.mk.injEq] at h
    obtain ⟨rfl, rfl, rfl, rfl⟩ := h; decide
  rw [if_neg h4] at h
  by_cases h5 : op = 24
  · rw [if_pos h5] at h
    simp only [Option.some.injEq, Prod.mk.injEq] at h
    obtain ⟨rfl, rfl, rfl, rfl⟩ := h; decide
  rw [if_neg h5] at h
  by_cases h6 : op = 25
  · rw [if_pos h6] at h
    simp only [Option.some.injEq, Prod.mk.injEq] at h
    obtain ⟨rfl, rfl, rfl, rfl⟩ := h; decide
  rw [if_neg h6] at h
  by_cases h7 : op = 53
  · rw [if_pos h7] at h
    simp only [Option.some.injEq, Prod.mk.injEq] at h
    obtain ⟨rfl, rfl, rfl, rfl⟩ := h; decide
  rw [if_neg h7] at h
  by_cases h8 : op = 20 ∨ op = 21 ∨ op = 22 ∨ op = 23 ∨ op = 57
  · rw [if_pos h8] at h
    simp only [Option.some.injEq, Prod.mk.injEq] at h
    obtain ⟨rfl, rfl, rfl, rfl⟩ := h; decide
  rw [if_neg h8] at h
  by_cases h9 : op = 4 ∨ op = 5
  · rw [if_pos h9] at h
    simp only [Option.some.injEq, Prod.mk.injEq] at h
    obtain ⟨rfl, rfl, rfl, rfl⟩ := h; decide
  rw [if_neg h9] at h
  by_cases h10 : op = 8 ∨ op = 9 ∨ op = 10 ∨ op = 11 ∨ op = 43 ∨ op = 44 ∨ op = 45 ∨ op = 46 ∨ op = 47 ∨ op = 48 ∨ op = 52 ∨ op = 54 ∨ op = 55
  · rw [if_pos h10] at h
    simp only [Option.some.injEq, Prod.mk.injEq] at h
    obtain ⟨rfl, rfl, rfl, rfl⟩ := h; decide
  rw [if_neg h10] at h
  by_cases h11 : op = 30 ∨ op = 31 ∨ op = 32 ∨ op = 33 ∨ op = 34 ∨ op = 35 ∨ op = 36 ∨ op = 37 ∨ op = 38 ∨ op = 39 ∨ op = 40 ∨ op = 41 ∨ op = 42
  · rw [if_pos h11] at h
    simp only [Option.some.injEq, Prod.mk.injEq] at h
    obtain ⟨rfl, rfl, rfl, rfl⟩ := h; decide
  rw [if_neg h11] at h
  by_cases h12 : op = 50 ∨ op = 51
  · rw [if_pos h12] at h
    simp only [Option.some.injEq, Prod.mk.injEq] at h
    obtain ⟨rfl, rfl, rfl, rfl⟩ := h; decide
  rw [if_neg h12] at h
  cases h

theorem wk_good {T : List Tw} {a : Nat} {x : Tw} (hx : T[a]? = some x) {may : Int → Bool} (h : good x (may x.op) = true) (f : Nat) (lev deep : Int) :
    wk T (f + 1) a lev may deep = kl (fun i a d => wk T f a (lev + 1) (partB (partOf x.op) i x.kids) d) x.kids.toNat 0 (a + 1) (if 40 < lev ∧ deep < 0 then (a : Int) else deep) := by
  rw [wk]; simp only [hx]; rw [if_pos h]
theorem kl_sign {g : Nat → Nat → Int → Nat × Int × Int} (hg : ∀ i a d, (g i a d).2.1 = -1 ∨ 0 ≤ (g i a d).2.1) : ∀ r i n d, (kl g r i n d).2.1 = -1 ∨ 0 ≤ (kl g r i n d).2.1
  | 0, _, _, _ => .inl rfl
  | r + 1, i, n, d => by
    unfold kl
    split
    · exact kl_sign hg r _ _ _
    · exact hg i n d
theorem wk_sign (T : List Tw) : ∀ f a l m d, (wk T f a l m d).2.1 = -1 ∨ 0 ≤ (wk T f a l m d).2.1
  | 0, _, _, _, _ => .inr (Int.le_refl 0)
  | f + 1, a, l, m, d => by
    unfold wk
    split
    · exact .inr (by simp)
    · split
      · exact kl_sign (fun i a d => wk_sign T f a _ _ d) _ _ _ _
      · exact .inr (by simp)
theorem kl_step (g : Nat → Nat → Int → Nat × Int × Int) {K i : Nat} (hi : i < K) (n : Nat) (d : Int) : kl g (K - i) i n d = if (g i n d).2.1 < 0 then kl g (K - (i + 1)) (i + 1) (g i n d).1 (g i n d).2.2 else g i n d := by
  have : K - i = (K - (i + 1)) + 1 := by omega
  rw [this]; rfl
theorem good_kids {op : Int} {t p : Nat} {l g : Int} (h : formT op = some (t, l, g, p)) {kids num : Int} {text : ByteArray} {q : Bool} (hg : good (op, kids, num, text) q = true) : 0 ≤ kids ∧ kids ≤ 2048 := by
  rw [good_eq h] at hg
  simp only [Bool.and_eq_true, decide_eq_true_eq] at hg
  have := formT_text h
  omega
theorem partOf_eq {op : Int} {t p : Nat} {l g : Int} (h : formT op = some (t, l, g, p)) : partOf op = p := by unfold partOf; simp only [h]
/-- The loop over a twig's parts, while it goes. -/
def LoopRel (w wr : World) (pa : Option Addr) (cap bt H bf bw bd bk : Nat) (T : List Tw) (a : Nat) (X F : Obj) (g3 : Nat → Nat → Int → Nat × Int × Int) (K : Nat) (d0 : Int) (gk : Nat) (nx pi : Value) : Prop :=
  ∃ (i next bI : Nat) (wrong d : Int), nx = .int .i64 next ∧ pi = pt bI ∧ Boxed wr bI 3 (.int .i64 i) ∧ w.heap.size + 2 ≤ bI ∧ Cx wr pa cap bt H bf bw bd bk T wrong d ∧ Sav (CW bw bd) w wr ∧
    wr.heap[w.heap.size]? = some X ∧ wr.heap[w.heap.size + 1]? = some F ∧ i ≤ K ∧ gk = K - i ∧ a + 1 ≤ next ∧ next ≤ T.length ∧
    ((wrong = -1 ∧ kl g3 K 0 (a + 1) d0 = kl g3 (K - i) i next d) ∨ (0 ≤ wrong ∧ kl g3 K 0 (a + 1) d0 = (next, wrong, d)))
set_option maxRecDepth 100000 in
set_option maxHeartbeats 4000000 in
theorem walk_inside (w : World) (pa : Option Addr) (cap bt H bf bw bd bk : Nat) (ho : Ord bt H bf bw bd bk) (T : List Tw) (hT : T.length ≤ 2048) (deep : Int) (hc : Cx w pa cap bt H bf bw bd bk T (-1) deep) (a : Nat) (op kids num : Int) (text : ByteArray) (hx : T[a]? = some (op, kids, num, text)) (lev : Int) (m : Nat) (caps : Array Value) (may : Int → Bool) (hmay : MayAt w bk m caps may)
    (t p : Nat) (l g : Int) (hf : formT op = some (t, l, g, p)) (f : Nat) (hl1 : 1 ≤ lev) (hl2 : lev ≤ a + 1)
    (ih : ∀ (a' : Nat) (lev' : Int) (m' : Nat) (caps' : Array Value) (may' : Int → Bool) (deep' : Int) (w' : World), a + 1 ≤ a' → a' ≤ T.length → 1 ≤ lev' → lev' ≤ a' + 1 → Cx w' pa cap bt H bf bw bd bk T (-1) deep' → MayAt w' bk m' caps' may' →
      Calls Try.prog 31 #[.int .i64 a', .int .i64 lev', .func (.func m') #[] caps', pt bt, pt bw, pt bf, pt bd, pt bk] w' fun e w'' => e = .returned (.int .i64 (wk T f a' lev' may' deep').1) ∧ Cx w'' pa cap bt H bf bw bd bk T (wk T f a' lev' may' deep').2.1 (wk T f a' lev' may' deep').2.2 ∧ Sav (CW bw bd) w' w'') :
    Calls Try.prog 31 #[.int .i64 a, .int .i64 lev, .func (.func m) #[] caps, pt bt, pt bw, pt bf, pt bd, pt bk] w fun e w' => e = .returned (.int .i64 (wk T (f + 1) a lev may deep).1) ∧ Cx w' pa cap bt H bf bw bd bk T (wk T (f + 1) a lev may deep).2.1 (wk T (f + 1) a lev may deep).2.2 ∧ Sav (CW bw bd) w w' := by
  have HC0 := Lib.hid hc
  obtain ⟨b1, b2, b3, b4, b5, ⟨L, M, hL⟩, hA⟩ := hc
  have c1 := b1.cell
  have c2 := b2.cell
  have f2 := b2.frozen
  have c3 := b3.cell
  have c4 := b4.cell
  have f4 := b4.frozen
  obtain ⟨A, hpa, hAB, x0, x1, x2, x3⟩ := hA a _ hx
  subst hpa
  have hlt : a < T.length := (List.getElem?_eq_some_iff.1 hx).1
  have h1 : decide ((T.length : Int) ≤ a) = false := by simp; omega
  have hlk : lk L op = some (.agg #[.func (.func t) #[] #[], .int .i64 l, .int .i64 g, .func (.func p) #[] #[]]) := by rw [hL, formA, hf]; rfl
  have HTX := Lib.hid (formT_text hf).1
  have HF := Lib.hid hf
  have HL := Lib.hid hlk; clear hlk hL hf
  have HA := Lib.hid hA; clear hA
  have HT := Lib.hid hT; clear hT
  dsimp only [Tw.op, Tw.kids, Tw.num, Tw.text] at x0 x1 x2 x3
  have l1 := b1.lt
  have l2 := b2.lt
  have l3 := b3.lt
  have l4 := b4.lt
  go_enter Try.func31, Try.ntmps31
  go_upto_region 6 with (refine wpList_look _ rfl (.tmp 29) (.tmp 31) rfl und5 und72 kind_u8 zero78 _ _ rfl (M.alloc _) op rfl (.agg #[.func (.func t) #[] #[], .int .i64 l, .int .i64 g, .func (.func p) #[] #[]]) true (by rw [HL.out]; rfl) (by rw [HL.out]; rfl) ?_)
  have S2 : ∀ S, Sav S w ((w.alloc (.cells #[.int .u8 op, .int .i64 kids, .int .i64 num, .string text] 31)).alloc (.cells #[.func (.func t) #[] #[], .int .i64 l, .int .i64 g, .func (.func p) #[] #[]] 78)) := fun S => ((Sav.refl S w).alloc _).alloc _
  have bX : ((w.alloc (.cells #[.int .u8 op, .int .i64 kids, .int .i64 num, .string text] 31)).alloc (.cells #[.func (.func t) #[] #[], .int .i64 l, .int .i64 g, .func (.func p) #[] #[]] 78)).heap[w.heap.size]? = some (.cells #[.int .u8 op, .int .i64 kids, .int .i64 num, .string text] 31 (0, 0)) :=
    ((MapKept.heap_alloc _ _).2 _ (by simp)).trans (MapKept.heap_alloc w _).1
  have bF : ((w.alloc (.cells #[.int .u8 op, .int .i64 kids, .int .i64 num, .string text] 31)).alloc (.cells #[.func (.func t) #[] #[], .int .i64 l, .int .i64 g, .func (.func p) #[] #[]] 78)).heap[w.heap.size + 1]? = some (.cells #[.func (.func t) #[] #[], .int .i64 l, .int .i64 g, .func (.func p) #[] #[]] 78 (0, 0)) := by
    have := (MapKept.heap_alloc (w.alloc (.cells #[.int .u8 op, .int .i64 kids, .int .i64 num, .string text] 31)) (.cells #[.func (.func t) #[] #[], .int .i64 l, .int .i64 g, .func (.func p) #[] #[]] 78)).1
    rwa [World.size_alloc] at this
  obtain ⟨w2, hw2⟩ : ∃ w2, (w.alloc (.cells #[.int .u8 op, .int .i64 kids, .int .i64 num, .string text] 31)).alloc (.cells #[.func (.func t) #[] #[], .int .i64 l, .int .i64 g, .func (.func p) #[] #[]] 78) = w2 := ⟨_, rfl⟩
  rw [hw2] at S2 bX bF ⊢
  clear hw2
  have hmay2 := hmay.sav (S2 (fun _ => False)) (fun _ h => h.elim)
  have E := may_enter hmay2 op
  have C := Lib.hid (may_any hmay2 op)
  have TE := text_enter HTX.out text
  have TC := Lib.hid (text_any t HTX.out text w2)
  have k0 : w2.cell? ⟨w.heap.size, 0, none⟩ = some (.int .u8 op) := by rw [cell_block bX]; rfl
  have k1 : w2.cell? ⟨w.heap.size, 1, none⟩ = some (.int .i64 kids) := by rw [cell_block bX]; rfl
  have k2 : w2.cell? ⟨w.heap.size, 2, none⟩ = some (.int .i64 num) := by rw [cell_block bX]; rfl
  have k3 : w2.cell? ⟨w.heap.size, 3, none⟩ = some (.string text) := by rw [cell_block bX]; rfl
  have j0 : w2.cell? ⟨w.heap.size + 1, 0, none⟩ = some (.func (.func t) #[] #[]) := by rw [cell_block bF]; rfl
  have j1 : w2.cell? ⟨w.heap.size + 1, 1, none⟩ = some (.int .i64 l) := by rw [cell_block bF]; rfl
  have j2 : w2.cell? ⟨w.heap.size + 1, 2, none⟩ = some (.int .i64 g) := by rw [cell_block bF]; rfl
  have SX := Lib.hid S2; have BX := Lib.hid bX; have BF := Lib.hid bF; have HM := Lib.hid hmay; have HM2 := Lib.hid hmay2
  clear S2 bX bF hmay hmay2 c1 c2 c3 c4 f2 f4 x0 x1 x2 x3 h1
  go_cut [80] (fun s80 wx => s80 = .bool (!good (op, kids, num, text) (may op)) ∧ wx = w2)
  case first =>
    obtain ⟨q1, hq1⟩ : ∃ q, may op = q := ⟨_, rfl⟩
    obtain ⟨q2, hq2⟩ : ∃ q, textB t text = q := ⟨_, rfl⟩
    have Q1 := Lib.hid hq1; have Q2 := Lib.hid hq2; clear hq1 hq2
    cases q1
    · skip
      go_wp2_with fail
      refine C.out.mono ?_
      rw [Q1.out]
      rintro e w' ⟨rfl, rfl⟩
      go_wp2_with fail
      go_meet
      exact ⟨by rw [good_eq HF.out, Q1.out]; rfl, rfl⟩
    cases q2
    · skip
      go_wp2_with fail
      refine C.out.mono ?_
      rw [Q1.out]
      rintro e w' ⟨rfl, rfl⟩
      go_wp2_with fail
      refine TC.out.mono ?_
      rw [Q2.out]
      rintro e w' ⟨rfl, rfl⟩
      go_wp2_with fail
      go_meet
      exact ⟨by rw [good_eq HF.out, Q1.out, Q2.out]; rfl, rfl⟩
    by_cases hl : kids < l
    · have HW := Lib.hid hl
      have h1 : decide (kids < l) = true := by simpa using HW.out
      have d1 := Lib.hid (decide_eq_false (by have := HW.out; omega : ¬ l ≤ kids))
      go_wp2_with fail
      refine C.out.mono ?_
      rw [Q1.out]
      rintro e w' ⟨rfl, rfl⟩
      go_wp2_with fail
      refine TC.out.mono ?_
      rw [Q2.out]
      rintro e w' ⟨rfl, rfl⟩
      go_wp2_with fail
      go_meet
      exact ⟨by rw [good_eq HF.out, Q1.out, Q2.out, d1.out]; rfl, rfl⟩
    have hl' : l ≤ kids := by omega
    have D1 := Lib.hid (decide_eq_true hl')
    have h1 : decide (kids < l) = false := by simp; omega
    clear hl
    by_cases hg : g < kids
    · have HW := Lib.hid hg
      have h2 : decide (g < kids) = true := by simpa using HW.out
      have d2 := Lib.hid (decide_eq_false (by have := HW.out; omega : ¬ kids ≤ g))
      go_wp2_with fail
      refine C.out.mono ?_
      rw [Q1.out]
      rintro e w' ⟨rfl, rfl⟩
      go_wp2_with fail
      refine TC.out.mono ?_
      rw [Q2.out]
      rintro e w' ⟨rfl, rfl⟩
      go_wp2_with fail
      go_meet
      exact ⟨by rw [good_eq HF.out, Q1.out, Q2.out, D1.out, d2.out]; rfl, rfl⟩
    have hg' : kids ≤ g := by omega
    have D2 := Lib.hid (decide_eq_true hg')
    have h2 : decide (g < kids) = false := by simp; omega
    clear hg
    have hn : (num < 0 ∧ decide (num < 0) = true ∧ decide (0 ≤ num) = false) ∨ (0 ≤ num ∧ decide (num < 0) = false ∧ decide (0 ≤ num) = true) := by
      rcases Int.lt_or_le num 0 with h | h
      · exact .inl ⟨h, decide_eq_true h, decide_eq_false (by omega)⟩
      · exact .inr ⟨h, decide_eq_false (by omega), decide_eq_true h⟩
    have HN := Lib.hid hn; clear hn
    rcases Decidable.em (op = 23) with p3 | p3 <;> rcases Decidable.em (num = 0) with p4 | p4
    · subst p4; subst p3
      go_wp2_with fail
      refine C.out.mono ?_
      rw [Q1.out]
      rintro e w' ⟨rfl, rfl⟩
      go_wp2_with fail
      refine TC.out.mono ?_
      rw [Q2.out]
      rintro e w' ⟨rfl, rfl⟩
      go_wp2_with fail
      go_meet
      exact ⟨by rw [good_eq HF.out, Q1.out, Q2.out, D1.out, D2.out]; rfl, rfl⟩
    · subst p3
      rcases HN.out with ⟨hn, h5, h6⟩ | ⟨hn, h5, h6⟩
      all_goals
        have H6 := Lib.hid h6; clear h6
        go_wp2_with fail
        refine C.out.mono ?_
        rw [Q1.out]
        rintro e w' ⟨rfl, rfl⟩
        go_wp2_with fail
        refine TC.out.mono ?_
        rw [Q2.out]
        rintro e w' ⟨rfl, rfl⟩
        go_wp2_with fail
        go_meet
        exact ⟨by rw [good_eq HF.out, Q1.out, Q2.out, D1.out, D2.out, H6.out]; rfl, rfl⟩
    · subst p4
      have Q3 := Lib.hid p3
      go_wp2_with fail
      refine C.out.mono ?_
      rw [Q1.out]
      rintro e w' ⟨rfl, rfl⟩
      go_wp2_with fail
      refine TC.out.mono ?_
      rw [Q2.out]
      rintro e w' ⟨rfl, rfl⟩
      go_wp2_with fail
      go_meet
      exact ⟨by rw [good_eq HF.out, Q1.out, Q2.out, D1.out, D2.out, beq_eq_false_iff_ne.2 Q3.out]; rfl, rfl⟩
    · have Q3 := Lib.hid p3
      have Q4 := Lib.hid p4
      go_wp2_with fail
      refine C.out.mono ?_
      rw [Q1.out]
      rintro e w' ⟨rfl, rfl⟩
      go_wp2_with fail
      refine TC.out.mono ?_
      rw [Q2.out]
      rintro e w' ⟨rfl, rfl⟩
      go_wp2_with fail
      go_meet
      exact ⟨by rw [good_eq HF.out, Q1.out, Q2.out, D1.out, D2.out, beq_eq_false_iff_ne.2 Q3.out, beq_eq_false_iff_ne.2 Q4.out]; rfl, rfl⟩
  case rest =>
    obtain ⟨rfl, rfl⟩ := hcut
    have X0 := Lib.hid (HC0.out.up ho (SX.out (fun _ => False)) (fun _ h => h.elim))
    obtain ⟨q, hq⟩ : ∃ q, good (op, kids, num, text) (may op) = q := ⟨_, rfl⟩
    rw [hq]
    have HQ := Lib.hid hq; clear hq
    obtain ⟨B1, B2, B3, B4, B5, _, _⟩ := X0.out
    cases q
    · have c2 := B2.cell
      have f2 := B2.frozen
      go_wp2_with fail
      go_ret
      refine ⟨?_, ?_, ?_⟩
      · simp only [wk, hx, HQ.out]; rfl
      · simp only [wk, hx, HQ.out]; exact X0.out.setWrong ho _
      · exact (SX.out _).set (x := ⟨bw, 0, none⟩) (.inl rfl) _
    · have c4 := B4.cell
      go_upto_region 9 with fail
      go_cut [88] (fun s88 wx => s88 = .bool (decide (40 < lev ∧ deep < 0)) ∧ wx = wc)
      case first =>
        rcases Int.lt_or_le 40 lev with g1 | g1
        · rcases Int.lt_or_le deep 0 with g2 | g2
          · go_wp2_with fail
            go_meet
            exact ⟨by congr 1; rw [Bool.eq_iff_iff]; simp; omega, rfl⟩
          · go_wp2_with fail
            go_meet
            exact ⟨by congr 1; rw [Bool.eq_iff_iff]; simp; omega, rfl⟩
        · go_wp2_with fail
          go_meet
          exact ⟨by congr 1; rw [Bool.eq_iff_iff]; simp; omega, rfl⟩
      case rest =>
        obtain ⟨rfl, rfl⟩ := hcut
        have ha : a ≤ 2048 := by have := HT.out; omega
        rcases Decidable.em (40 < lev ∧ deep < 0) with gd | gd
        · rw [decide_eq_true gd]
          have f4 := B4.frozen
          have GD := Lib.hid gd; clear gd
          go_upto_region 12 with fail
          have X3 := Lib.hid (X0.out.setDeep ho a)
          have S3 := Lib.hid ((SX.out (CW bw bd)).set (x := ⟨bd, 0, none⟩) (.inr rfl) (.int .i64 a))
          have BX3 := Lib.hid (block_sav ((Sav.refl (fun k => k = bd) wc).set (x := ⟨bd, 0, none⟩) rfl (.int .i64 a)) BX.out (by have := l4; omega))
          have BF3 := Lib.hid (block_sav ((Sav.refl (fun k => k = bd) wc).set (x := ⟨bd, 0, none⟩) rfl (.int .i64 a)) BF.out (by have := l4; omega))
          obtain ⟨w3, hw3⟩ : ∃ w3, wc.setCell ⟨bd, 0, none⟩ (.int .i64 a) = w3 := ⟨_, rfl⟩
          rw [hw3] at X3 S3 BX3 BF3 ⊢
          clear hw3 c4 f4
          clear B1 B2 B3 B4 B5
          have S4 := Lib.hid (S3.out.alloc (.cells #[.int .i64 0] 3))
          have X4 := Lib.hid (X3.out.up ho ((Sav.refl (fun _ => False) w3).alloc (.cells #[.int .i64 0] 3)) (fun _ h => h.elim))
          have BX4 := Lib.hid (block_sav ((Sav.refl (fun _ => False) w3).alloc (.cells #[.int .i64 0] 3)) BX3.out (fun h => h))
          have BF4 := Lib.hid (block_sav ((Sav.refl (fun _ => False) w3).alloc (.cells #[.int .i64 0] 3)) BF3.out (fun h => h))
          have BI4 := Lib.hid (Boxed.new w3 3 (.int .i64 0))
          have NS := Lib.hid (Array.getElem?_eq_some_iff.1 BF3.out).1
          have HL5 := Lib.hid b5.lt
          clear l1 l2 l3 l4 b1 b2 b3 b4 b5
          obtain ⟨K, rfl⟩ : ∃ K : Nat, kids = K := ⟨kids.toNat, by have := (good_kids HF.out HQ.out).1; omega⟩
          have hK := (good_kids HF.out HQ.out).2
          have RR : Hid (wk T (f + 1) a lev may deep = kl (fun i a d => wk T f a (lev + 1) (partB (partOf op) i K) d) K 0 (a + 1) a) := Lib.hid (by
            have := wk_good hx HQ.out f lev deep
            rw [if_pos GD.out] at this; exact this)
          have IH := Lib.hid ih; clear ih
          go_wp2_with fail
          go_loopg [15, 16] K (fun gk nx pi wr => LoopRel w wr (some A) cap bt H bf bw bd bk T a (.cells #[.int .u8 op, .int .i64 K, .int .i64 num, .string text] 31 (0, 0)) (.cells #[.func (.func t) #[] #[], .int .i64 l, .int .i64 g, .func (.func p) #[] #[]] 78 (0, 0)) (fun i a d => wk T f a (lev + 1) (partB (partOf op) i K) d) K a gk nx pi)
          case atStart =>
            exact ⟨0, a + 1, w3.heap.size, -1, a, by go_num, rfl, BI4.out, by have := NS.out; omega, X4.out, S4.out, BX4.out, BF4.out, Nat.zero_le _, rfl, Nat.le_refl _, hlt, .inl ⟨rfl, rfl⟩⟩
          case round =>
            obtain ⟨i, next, bI, wrong, d, rfl, rfl, hbI, hbn, hX, hS, hBX, hBF, hik, rfl, hn1, hn2, hcase⟩ := hrel
            have R := Lib.hid RR.out
            have ci := hbI.cell
            have ck : wr.cell? ⟨w.heap.size, 1, none⟩ = some (.int .i64 K) := by rw [cell_block hBX]; rfl
            have HX := Lib.hid hX; have HS := Lib.hid hS; have HBX := Lib.hid hBX; have HBF := Lib.hid hBF; have HBI := Lib.hid hbI
            obtain ⟨D1, D2, D3, D4, D5, _, _⟩ := HX.out
            have cw := D2.cell
            have ck7 := D5.cell
            have HO := Lib.hid ho
            have HN1 := Lib.hid hn1; have HN2 := Lib.hid hn2
            clear hX hS hBX hBF hbI D1 D2 D3 D4 D5
            rcases hcase with ⟨rfl, hc⟩ | ⟨hw, hc⟩
            · have HC := Lib.hid hc; clear hc
              by_cases hi : i < K
              · have hi' : (i : Int) < K := by omega
                have hnx : (next : Int) ≤ 2048 := by have := HT.out; omega
                go_wp2_with fail
                have hP : PartAt wr (w.heap.size + 1) bI w.heap.size p i K := ⟨⟨_, _, _, HBF.out⟩, HBI.out, ⟨_, _, _, HBX.out⟩, (formT_text HF.out).2.1, by omega, by omega, by omega, by omega⟩
                refine (IH.out next (lev + 1) 32 #[pt (w.heap.size + 1), pt bI, pt w.heap.size] (partB p i K) d wr HN1.out HN2.out (by omega) (by have := HN1.out; omega) HX.out
                  (.inr ⟨rfl, _, _, _, p, i, K, rfl, hP, fun _ => rfl, by have := HL5.out; omega, by have := HL5.out; omega, HL5.out⟩)).mono ?_
                rintro e w' ⟨rfl, hX', hS'⟩
                have nC : ∀ k, w.heap.size ≤ k → ¬ CW bw bd k := fun k hk c => by
                  obtain ⟨o1, o2, o3, o4, o5⟩ := HO.out
                  have := HL5.out
                  rcases c with rfl | rfl <;> omega
                have c2 := (hS'.box HBI.out (nC _ (by omega))).cell
                have NC := Lib.hid nC; have HX' := Lib.hid hX'; have HS' := Lib.hid hS'; have HP := Lib.hid hP
                clear nC hX' hS' hP cw ck7 ck ci
                have hi5 : i ≤ 5000 := by omega
                go_wp2_with fail
                go_roundg (K - (i + 1))
                case measure => omega
                case rel =>
                  have hlt2 := (Array.getElem?_eq_some_iff.1 HBF.out).1
                  have hsz := HS'.out.size
                  refine ⟨i + 1, _, w'.heap.size, _, _, rfl, rfl, Boxed.new w' 3 (.int .i64 ((i : Int) + 1)), by omega, HX'.out.up HO.out ((Sav.refl (fun _ => False) w').alloc _) (fun _ h => h.elim), (HS.out.trans HS'.out).alloc _,
                    block_sav ((Sav.refl (fun _ => False) w').alloc _) (block_sav HS'.out HBX.out (NC.out _ (Nat.le_refl _))) (fun h => h), block_sav ((Sav.refl (fun _ => False) w').alloc _) (block_sav HS'.out HBF.out (NC.out _ (by omega))) (fun h => h), hi, rfl,
                    Nat.le_trans HN1.out (wk_ge T f next _ _ d), wk_le T f next _ _ d HN2.out, ?_⟩
                  have hk := HC.out.trans (kl_step _ hi next d)
                  simp only [partOf_eq HF.out] at hk ⊢
                  rcases wk_sign T f next (lev + 1) (partB p i K) d with hs | hs
                  · left
                    refine ⟨hs, ?_⟩
                    rw [if_pos (by omega)] at hk
                    exact hk
                  · right
                    refine ⟨hs, ?_⟩
                    rw [if_neg (by omega)] at hk
                    exact hk
              · have hi' : ¬ (i : Int) < K := by omega
                go_wp2_with fail
                go_ret
                have e : K - i = 0 := by omega
                have E : wk T (f + 1) a lev may deep = (next, -1, d) := by rw [RR.out, HC.out, e]; rfl
                exact ⟨by rw [E]; rfl, by rw [E]; exact HX.out, HS.out⟩
            · have HC := Lib.hid hc; clear hc
              have hw' : ¬ wrong < 0 := by omega
              have E : Hid (wk T (f + 1) a lev may deep = (next, wrong, d)) := Lib.hid (by rw [RR.out, HC.out])
              by_cases hi : (i : Int) < K
              · go_wp2_with fail
                go_ret
                exact ⟨by rw [E.out]; rfl, by rw [E.out]; exact HX.out, HS.out⟩
              · go_wp2_with fail
                go_ret
                exact ⟨by rw [E.out]; rfl, by rw [E.out]; exact HX.out, HS.out⟩
        · rw [decide_eq_false gd]
          have GD := Lib.hid gd; clear gd
          go_upto_region 12 with fail
          have X3 := Lib.hid X0.out
          have S3 := Lib.hid (SX.out (CW bw bd))
          have BX3 := Lib.hid BX.out
          have BF3 := Lib.hid BF.out
          obtain ⟨w3, hw3⟩ : ∃ w3, wc = w3 := ⟨_, rfl⟩
          rw [hw3] at X3 S3 BX3 BF3 ⊢
          clear hw3 c4
          clear B1 B2 B3 B4 B5
          have S4 := Lib.hid (S3.out.alloc (.cells #[.int .i64 0] 3))
          have X4 := Lib.hid (X3.out.up ho ((Sav.refl (fun _ => False) w3).alloc (.cells #[.int .i64 0] 3)) (fun _ h => h.elim))
          have BX4 := Lib.hid (block_sav ((Sav.refl (fun _ => False) w3).alloc (.cells #[.int .i64 0] 3)) BX3.out (fun h => h))
          have BF4 := Lib.hid (block_sav ((Sav.refl (fun _ => False) w3).alloc (.cells #[.int .i64 0] 3)) BF3.out (fun h => h))
          have BI4 := Lib.hid (Boxed.new w3 3 (.int .i64 0))
          have NS := Lib.hid (Array.getElem?_eq_some_iff.1 BF3.out).1
          have HL5 := Lib.hid b5.lt
          clear l1 l2 l3 l4 b1 b2 b3 b4 b5
          obtain ⟨K, rfl⟩ : ∃ K : Nat, kids = K := ⟨kids.toNat, by have := (good_kids HF.out HQ.out).1; omega⟩
          have hK := (good_kids HF.out HQ.out).2
          have RR : Hid (wk T (f + 1) a lev may deep = kl (fun i a d => wk T f a (lev + 1) (partB (partOf op) i K) d) K 0 (a + 1) deep) := Lib.hid (by
            have := wk_good hx HQ.out f lev deep
            rw [if_neg GD.out] at this; exact this)
          have IH := Lib.hid ih; clear ih
          go_wp2_with fail
          go_loopg [15, 16] K (fun gk nx pi wr => LoopRel w wr (some A) cap bt H bf bw bd bk T a (.cells #[.int .u8 op, .int .i64 K, .int .i64 num, .string text] 31 (0, 0)) (.cells #[.func (.func t) #[] #[], .int .i64 l, .int .i64 g, .func (.func p) #[] #[]] 78 (0, 0)) (fun i a d => wk T f a (lev + 1) (partB (partOf op) i K) d) K deep gk nx pi)
          case atStart =>
            exact ⟨0, a + 1, w3.heap.size, -1, deep, by go_num, rfl, BI4.out, by have := NS.out; omega, X4.out, S4.out, BX4.out, BF4.out, Nat.zero_le _, rfl, Nat.le_refl _, hlt, .inl ⟨rfl, rfl⟩⟩
          case round =>
            obtain ⟨i, next, bI, wrong, d, rfl, rfl, hbI, hbn, hX, hS, hBX, hBF, hik, rfl, hn1, hn2, hcase⟩ := hrel
            have R := Lib.hid RR.out
            have ci := hbI.cell
            have ck : wr.cell? ⟨w.heap.size, 1, none⟩ = some (.int .i64 K) := by rw [cell_block hBX]; rfl
            have HX := Lib.hid hX; have HS := Lib.hid hS; have HBX := Lib.hid hBX; have HBF := Lib.hid hBF; have HBI := Lib.hid hbI
            obtain ⟨D1, D2, D3, D4, D5, _, _⟩ := HX.out
            have cw := D2.cell
            have ck7 := D5.cell
            have HO := Lib.hid ho
            have HN1 := Lib.hid hn1; have HN2 := Lib.hid hn2
            clear hX hS hBX hBF hbI D1 D2 D3 D4 D5
            rcases hcase with ⟨rfl, hc⟩ | ⟨hw, hc⟩
            · have HC := Lib.hid hc; clear hc
              by_cases hi : i < K
              · have hi' : (i : Int) < K := by omega
                have hnx : (next : Int) ≤ 2048 := by have := HT.out; omega
                go_wp2_with fail
                have hP : PartAt wr (w.heap.size + 1) bI w.heap.size p i K := ⟨⟨_, _, _, HBF.out⟩, HBI.out, ⟨_, _, _, HBX.out⟩, (formT_text HF.out).2.1, by omega, by omega, by omega, by omega⟩
                refine (IH.out next (lev + 1) 32 #[pt (w.heap.size + 1), pt bI, pt w.heap.size] (partB p i K) d wr HN1.out HN2.out (by omega) (by have := HN1.out; omega) HX.out
                  (.inr ⟨rfl, _, _, _, p, i, K, rfl, hP, fun _ => rfl, by have := HL5.out; omega, by have := HL5.out; omega, HL5.out⟩)).mono ?_
                rintro e w' ⟨rfl, hX', hS'⟩
                have nC : ∀ k, w.heap.size ≤ k → ¬ CW bw bd k := fun k hk c => by
                  obtain ⟨o1, o2, o3, o4, o5⟩ := HO.out
                  have := HL5.out
                  rcases c with rfl | rfl <;> omega
                have c2 := (hS'.box HBI.out (nC _ (by omega))).cell
                have NC := Lib.hid nC; have HX' := Lib.hid hX'; have HS' := Lib.hid hS'; have HP := Lib.hid hP
                clear nC hX' hS' hP cw ck7 ck ci
                have hi5 : i ≤ 5000 := by omega
                go_wp2_with fail
                go_roundg (K - (i + 1))
                case measure => omega
                case rel =>
                  have hlt2 := (Array.getElem?_eq_some_iff.1 HBF.out).1
                  have hsz := HS'.out.size
                  refine ⟨i + 1, _, w'.heap.size, _, _, rfl, rfl, Boxed.new w' 3 (.int .i64 ((i : Int) + 1)), by omega, HX'.out.up HO.out ((Sav.refl (fun _ => False) w').alloc _) (fun _ h => h.elim), (HS.out.trans HS'.out).alloc _,
                    block_sav ((Sav.refl (fun _ => False) w').alloc _) (block_sav HS'.out HBX.out (NC.out _ (Nat.le_refl _))) (fun h => h), block_sav ((Sav.refl (fun _ => False) w').alloc _) (block_sav HS'.out HBF.out (NC.out _ (by omega))) (fun h => h), hi, rfl,
                    Nat.le_trans HN1.out (wk_ge T f next _ _ d), wk_le T f next _ _ d HN2.out, ?_⟩
                  have hk := HC.out.trans (kl_step _ hi next d)
                  simp only [partOf_eq HF.out] at hk ⊢
                  rcases wk_sign T f next (lev + 1) (partB p i K) d with hs | hs
                  · left
                    refine ⟨hs, ?_⟩
                    rw [if_pos (by omega)] at hk
                    exact hk
                  · right
                    refine ⟨hs, ?_⟩
                    rw [if_neg (by omega)] at hk
                    exact hk
              · have hi' : ¬ (i : Int) < K := by omega
                go_wp2_with fail
                go_ret
                have e : K - i = 0 := by omega
                have E : wk T (f + 1) a lev may deep = (next, -1, d) := by rw [RR.out, HC.out, e]; rfl
                exact ⟨by rw [E]; rfl, by rw [E]; exact HX.out, HS.out⟩
            · have HC := Lib.hid hc; clear hc
              have hw' : ¬ wrong < 0 := by omega
              have E : Hid (wk T (f + 1) a lev may deep = (next, wrong, d)) := Lib.hid (by rw [RR.out, HC.out])
              by_cases hi : (i : Int) < K
              · go_wp2_with fail
                go_ret
                exact ⟨by rw [E.out]; rfl, by rw [E.out]; exact HX.out, HS.out⟩
              · go_wp2_with fail
                go_ret
                exact ⟨by rw [E.out]; rfl, by rw [E.out]; exact HX.out, HS.out⟩
end Go.Proofs.Ytkpgnopimnamfaa
