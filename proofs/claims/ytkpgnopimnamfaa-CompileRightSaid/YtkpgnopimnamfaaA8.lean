/- tree.Check's walk, whole. -/
import Derived.Test.YtkpgnopimnamfaaA7
namespace Go.Proofs.Ytkpgnopimnamfaa
open Go.ChangeShapes Go.WideShapes Go.ChangeAt Go.RowKit
set_option maxRecDepth 100000 in
set_option maxHeartbeats 1000000 in
theorem walk_end (w : World) (pa : Option Addr) (cap bt H bf bw bd bk : Nat) (ho : Ord bt H bf bw bd bk) (T : List Tw) (deep : Int) (hc : Cx w pa cap bt H bf bw bd bk T (-1) deep) (a : Nat) (ha : T.length ≤ a) (lev : Int) (mv : Value) :
    Calls Try.prog 31 #[.int .i64 a, .int .i64 lev, mv, pt bt, pt bw, pt bf, pt bd, pt bk] w fun e w' => e = .returned (.int .i64 a) ∧ Cx w' pa cap bt H bf bw bd bk T T.length deep ∧ Sav (CW bw bd) w w' := by
  have HC := Lib.hid hc
  obtain ⟨b1, b2, b3, b4, b5, hF, hA⟩ := hc
  have c1 := b1.cell
  have c2 := b2.cell
  have f2 := b2.frozen
  have h1 : decide ((T.length : Int) ≤ a) = true := by simp; omega
  clear hF hA b1 b2 b3 b4 b5
  go_enter Try.func31, Try.ntmps31
  go_wp2_with fail
  go_ret
  exact ⟨rfl, HC.out.setWrong ho _, (Sav.refl _ w).set (x := ⟨bw, 0, none⟩) (.inl rfl) _⟩
set_option maxRecDepth 100000 in
set_option maxHeartbeats 1000000 in
theorem walk_none (w : World) (pa : Option Addr) (cap bt H bf bw bd bk : Nat) (ho : Ord bt H bf bw bd bk) (T : List Tw) (deep : Int) (hc : Cx w pa cap bt H bf bw bd bk T (-1) deep) (a : Nat) (op kids num : Int) (text : ByteArray) (hx : T[a]? = some (op, kids, num, text)) (lev : Int) (mv : Value)
    (hf : formT op = none) :
    Calls Try.prog 31 #[.int .i64 a, .int .i64 lev, mv, pt bt, pt bw, pt bf, pt bd, pt bk] w fun e w' => e = .returned (.int .i64 a) ∧ Cx w' pa cap bt H bf bw bd bk T a deep ∧ Sav (CW bw bd) w w' := by
  have HC0 := Lib.hid hc
  obtain ⟨b1, b2, b3, b4, b5, ⟨L, M, hL⟩, hA⟩ := hc
  have c1 := b1.cell
  have c2 := b2.cell
  have f2 := b2.frozen
  have c3 := b3.cell
  have c4 := b4.cell
  have f4 := b4.frozen
  obtain ⟨A, hpa, hAB, x0, x1, x2, x3⟩ := hA a _ hx
  subst hpa
  have hlt : a < T.length := (List.getElem?_eq_some_iff.1 hx).1
  have h1 : decide ((T.length : Int) ≤ a) = false := by simp; omega
  have hlk : lk L op = none := by rw [hL, formA, hf]; rfl
  have HL := Lib.hid hlk; clear hlk hL hf hA
  dsimp only [Tw.op, Tw.kids, Tw.num, Tw.text] at x0 x1 x2 x3
  have l1 := b1.lt
  have l2 := b2.lt
  have l3 := b3.lt
  have l4 := b4.lt
  go_enter Try.func31, Try.ntmps31
  go_upto_region 6 with (refine wpList_look _ rfl (.tmp 29) (.tmp 31) rfl und5 und72 kind_u8 zero78 _ _ rfl (M.alloc _) op rfl (.agg #[.nilFunc, .int .i64 0, .int .i64 0, .nilFunc]) false (by rw [HL.out]; rfl) (by rw [HL.out]; rfl) ?_)
  have X2 := Lib.hid (HC0.out.up ho (((Sav.refl (fun _ => False) w).alloc (.cells #[.int .u8 op, .int .i64 kids, .int .i64 num, .string text] 31)).alloc (.cells #[.nilFunc, .int .i64 0, .int .i64 0, .nilFunc] 78)) (fun _ h => h.elim))
  have S2 := Lib.hid (((Sav.refl (CW bw bd) w).alloc (.cells #[.int .u8 op, .int .i64 kids, .int .i64 num, .string text] 31)).alloc (.cells #[.nilFunc, .int .i64 0, .int .i64 0, .nilFunc] 78))
  obtain ⟨w2, hw2⟩ : ∃ w2, (w.alloc (.cells #[.int .u8 op, .int .i64 kids, .int .i64 num, .string text] 31)).alloc (.cells #[.nilFunc, .int .i64 0, .int .i64 0, .nilFunc] 78) = w2 := ⟨_, rfl⟩
  rw [hw2] at X2 S2 ⊢
  clear hw2 c1 c2 c3 c4 f2 f4 x0 x1 x2 x3 h1 b1 b2 b3 b4 b5 M l1 l2 l3 l4
  obtain ⟨_, B2, _, _, _, _, _⟩ := X2.out
  have c2 := B2.cell
  have f2 := B2.frozen
  clear B2
  go_wp2_with fail
  go_ret
  exact ⟨rfl, X2.out.setWrong ho _, S2.out.set (x := ⟨bw, 0, none⟩) (.inl rfl) _⟩
theorem walk_any (pa : Option Addr) (cap bt H bf bw bd bk : Nat) (ho : Ord bt H bf bw bd bk) (T : List Tw) (hT : T.length ≤ 2048) : ∀ (f a : Nat) (lev : Int) (m : Nat) (caps : Array Value) (may : Int → Bool) (deep : Int) (w : World),
    a ≤ T.length → T.length - a < f → 1 ≤ lev → lev ≤ a + 1 → Cx w pa cap bt H bf bw bd bk T (-1) deep → MayAt w bk m caps may →
    Calls Try.prog 31 #[.int .i64 a, .int .i64 lev, .func (.func m) #[] caps, pt bt, pt bw, pt bf, pt bd, pt bk] w fun e w' => e = .returned (.int .i64 (wk T f a lev may deep).1) ∧ Cx w' pa cap bt H bf bw bd bk T (wk T f a lev may deep).2.1 (wk T f a lev may deep).2.2 ∧ Sav (CW bw bd) w w'
  | 0, a, lev, m, caps, may, deep, w, h1, h2, _, _, _, _ => by omega
  | f + 1, a, lev, m, caps, may, deep, w, h1, h2, h3, h4, hc, hm => by
    cases hx : T[a]? with
    | none =>
      have ha : T.length ≤ a := by simpa using hx
      have e : wk T (f + 1) a lev may deep = (a, (T.length : Int), deep) := by rw [wk]; simp only [hx]
      rw [e]
      exact walk_end w pa cap bt H bf bw bd bk ho T deep hc a ha lev _
    | some x =>
      obtain ⟨op, kids, num, text⟩ := x
      cases hf : formT op with
      | none =>
        have hg : good (op, kids, num, text) (may op) = false := by unfold good; simp only [hf]
        have e : wk T (f + 1) a lev may deep = (a, (a : Int), deep) := by
          rw [wk]; simp only [hx]
          rw [if_neg (by rw [hg]; decide)]
        rw [e]
        exact walk_none w pa cap bt H bf bw bd bk ho T deep hc a op kids num text hx lev _ hf
      | some q =>
        obtain ⟨t, l, g, p⟩ := q
        exact walk_inside w pa cap bt H bf bw bd bk ho T hT deep hc a op kids num text hx lev m caps may hm t p l g hf f h3 h4
          (fun a' lev' m' caps' may' deep' w' k1 k2 k3 k4 kc km => walk_any pa cap bt H bf bw bd bk ho T hT f a' lev' m' caps' may' deep' w' k2 (by omega) k3 k4 kc km)
end Go.Proofs.Ytkpgnopimnamfaa
