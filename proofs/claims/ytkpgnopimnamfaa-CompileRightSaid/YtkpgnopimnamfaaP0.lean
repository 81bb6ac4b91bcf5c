/- Right trees as trees: what tree.Check lets through is a tree laid flat. -/
import Derived.Test.YtkpgnopimnamfaaA7
namespace Go.Proofs.Ytkpgnopimnamfaa
/-- A tree. -/
inductive Ro where
  | node (x : Tw) (ks : List Ro)
mutual
/-- Laid flat. -/
def Ro.flat : Ro → List Tw
  | .node x ks => x :: flats ks
def flats : List Ro → List Tw
  | [] => []
  | r :: rs => r.flat ++ flats rs
end
mutual
/-- Is it right, if its place takes it? -/
def okR (may : Int → Bool) : Ro → Prop
  | .node x ks => good x (may x.op) = true ∧ (ks.length : Int) = x.kids ∧ okRs (partOf x.op) x.kids 0 ks
def okRs (p : Nat) (n : Int) (i : Nat) : List Ro → Prop
  | [] => True
  | r :: rs => okR (partB p i n) r ∧ okRs p n (i + 1) rs
end
theorem flat_pos : ∀ r : Ro, 0 < r.flat.length
  | .node x ks => by simp [Ro.flat]
/-- What begins at a place. -/
def Lies (T : List Tw) (a : Nat) (l : List Tw) : Prop := T.drop a = l ++ T.drop (a + l.length)
theorem Lies.nil (T : List Tw) (a : Nat) : Lies T a [] := by simp [Lies]
theorem Lies.cons {T : List Tw} {a : Nat} {x : Tw} {l : List Tw} (hx : T[a]? = some x) (h : Lies T (a + 1) l) : Lies T a (x :: l) := by
  unfold Lies at *
  obtain ⟨hlt, rfl⟩ := List.getElem?_eq_some_iff.1 hx
  have e : a + (T[a] :: l).length = a + 1 + l.length := by simp only [List.length_cons]; omega
  rw [List.drop_eq_getElem_cons hlt, h, e]
  rfl
theorem Lies.append {T : List Tw} {a : Nat} {l m : List Tw} (h : Lies T a l) (k : Lies T (a + l.length) m) : Lies T a (l ++ m) := by
  unfold Lies at *
  have e : a + (l ++ m).length = a + l.length + m.length := by simp only [List.length_append]; omega
  rw [h, k, e, List.append_assoc]
theorem Lies.left {T : List Tw} {a : Nat} {l m : List Tw} (h : Lies T a (l ++ m)) : Lies T a l := by
  unfold Lies at *
  have e : T.drop (a + l.length) = (T.drop a).drop l.length := by rw [List.drop_drop]
  rw [e, h]; simp
theorem Lies.right {T : List Tw} {a : Nat} {l m : List Tw} (h : Lies T a (l ++ m)) : Lies T (a + l.length) m := by
  have hl := h.left
  unfold Lies at *
  have e : T.drop (a + l.length) = (T.drop a).drop l.length := by rw [List.drop_drop]
  have e2 : T.drop (a + l.length + m.length) = T.drop (a + (l ++ m).length) := by simp [Nat.add_assoc]
  rw [e2, e, h]; simp
theorem Lies.head {T : List Tw} {a : Nat} {x : Tw} {l : List Tw} (h : Lies T a (x :: l)) : T[a]? = some x := by
  unfold Lies at h
  have := congrArg (fun l => l[0]?) h
  simpa using this
theorem Lies.tail {T : List Tw} {a : Nat} {x : Tw} {l : List Tw} (h : Lies T a (x :: l)) : Lies T (a + 1) l := by
  have : Lies T a ([x] ++ l) := h
  exact this.right
theorem Lies.le {T : List Tw} {a : Nat} {l : List Tw} (h : Lies T a l) (hl : 0 < l.length) : a + l.length ≤ T.length := by
  unfold Lies at h
  have := congrArg List.length h
  simp only [List.length_drop, List.length_append] at this
  omega
theorem Lies.all (T : List Tw) : Lies T 0 T := by simp [Lies]

theorem kl_parse {T : List Tw} {f : Nat} {lev n : Int} {p : Nat}
    (ih : ∀ a lev may d, (wk T f a lev may d).2.1 < 0 → ∃ r, okR may r ∧ (wk T f a lev may d).1 = a + r.flat.length ∧ Lies T a r.flat) :
    ∀ r i nx d, (kl (fun i a d => wk T f a lev (partB p i n) d) r i nx d).2.1 < 0 →
      ∃ ks, ks.length = r ∧ okRs p n i ks ∧ (kl (fun i a d => wk T f a lev (partB p i n) d) r i nx d).1 = nx + (flats ks).length ∧ Lies T nx (flats ks)
  | 0, i, nx, d, _ => ⟨[], rfl, trivial, rfl, Lies.nil T nx⟩
  | r + 1, i, nx, d, h => by
    unfold kl at h ⊢
    by_cases hc : (wk T f nx lev (partB p i n) d).2.1 < 0
    · obtain ⟨r0, ok0, e0, l0⟩ := ih nx lev (partB p i n) d hc
      simp only [if_pos hc] at h ⊢
      obtain ⟨ks, hk, oks, e1, l1⟩ := kl_parse ih r (i + 1) _ _ h
      refine ⟨r0 :: ks, by simp [hk], ⟨ok0, oks⟩, ?_, ?_⟩
      · rw [e1, e0]; simp [flats, Nat.add_assoc]
      · rw [e0] at l1; exact l0.append l1
    · simp only [if_neg hc] at h; exact absurd h hc
theorem wk_parse (T : List Tw) : ∀ f a lev may d, (wk T f a lev may d).2.1 < 0 → ∃ r, okR may r ∧ (wk T f a lev may d).1 = a + r.flat.length ∧ Lies T a r.flat
  | 0, a, lev, may, d, h => by simp [wk] at h
  | f + 1, a, lev, may, d, h => by
    unfold wk at h ⊢
    cases hx : T[a]? with
    | none => simp only [hx] at h; omega
    | some x =>
      simp only [hx] at h ⊢
      by_cases hg : good x (may x.op) = true
      · simp only [if_pos hg] at h ⊢
        obtain ⟨ks, hk, oks, e1, l1⟩ := kl_parse (wk_parse T f) _ _ _ _ h
        have h0 : 0 ≤ x.kids := by
          unfold good at hg
          cases hf : formT x.op with
          | none => simp only [hf] at hg; cases hg
          | some q =>
            obtain ⟨t, l, m, p⟩ := q
            simp only [hf, Bool.and_eq_true, decide_eq_true_eq] at hg
            have := (formT_text hf).2.2.1
            omega
        refine ⟨.node x ks, ⟨hg, by omega, oks⟩, ?_, ?_⟩
        · rw [e1]; simp [Ro.flat]; omega
        · exact Lies.cons hx l1
      · simp only [if_neg hg] at h; omega
/-- What Check lets through is a right tree. -/
theorem tree_parse {T : List Tw} (h : (treeSpec T).2 = 0) : ∃ r : Ro, r.flat = T ∧ okR (fun _ => true) r ∧ T.length ≤ 2048 := by
  unfold treeSpec at h
  by_cases h1 : 2048 < T.length
  · rw [if_pos h1] at h; simp at h
  rw [if_neg h1] at h
  by_cases h2 : 0 ≤ (wk T (T.length + 1) 0 1 (fun _ => true) (-1)).2.1
  · rw [if_pos h2] at h; simp at h
  rw [if_neg h2] at h
  by_cases h3 : (wk T (T.length + 1) 0 1 (fun _ => true) (-1)).1 < T.length
  · rw [if_pos h3] at h; simp at h
  obtain ⟨r, ok, e, l⟩ := wk_parse T (T.length + 1) 0 1 (fun _ => true) (-1) (by omega)
  refine ⟨r, ?_, ok, by omega⟩
  unfold Lies at l
  have h4 : T.length ≤ 0 + r.flat.length := by omega
  rw [List.drop_of_length_le h4] at l
  simpa using l.symm
end Go.Proofs.Ytkpgnopimnamfaa
