/- A whole flow's code is right; CompileRight returns true. -/
import Derived.Test.YtkpgnopimnamfaaVA
import Derived.Test.YtkpgnopimnamfaaTA
namespace Go.Proofs.Ytkpgnopimnamfaa
/-- All slots that are seen are slots. -/
def LO (L : Seen) : Prop := ∀ k s, li L k = some s → 0 ≤ s ∧ s < 100
theorem LO.add {L : Seen} (h : LO L) (k : ByteArray) (s : Int) (h0 : 0 ≤ s) (h1 : s < 100) : LO (L ++ [(k, s)]) := fun k' s' hs => by
  rw [li_app] at hs
  cases hl : li L k' with
  | some t =>
    rw [hl] at hs
    simp only [Option.some_or, Option.some.injEq] at hs
    subst hs
    exact h k' t hl
  | none =>
    rw [hl] at hs
    simp only [Option.none_or] at hs
    unfold li at hs
    by_cases hk : k = k'
    · simp [hk] at hs; omega
    · simp [hk] at hs
theorem hdS_ok {x : Tw} {L : Seen} {made : Nat} (hL : LO L) (hm : made ≤ 100) (hf : (hdS x L made).2.2.2.2 = 0) :
    (hdS x L made).2.2.1 ≤ 100 ∧ (¬ (hdS x L made).1 = ⟨#[]⟩ → 0 ≤ (hdS x L made).2.1 ∧ (hdS x L made).2.1 < 100) ∧ (x.op = 4 ∨ x.op = 5 ∨ x.op = 26 → 0 ≤ (hdS x L made).2.2.2.1 ∧ (hdS x L made).2.2.2.1 < 100) ∧ (x.op = 2 → made < 100 ∧ (hdS x L made).2.2.1 = made + 1) := by
  unfold hdS at hf ⊢
  by_cases h1 : x.op = 2 ∨ x.op = 4
  · simp only [if_pos h1] at hf ⊢
    unfold entF at hf
    by_cases h2 : (li L x.text).isSome = true
    · rw [if_pos h2] at hf; omega
    rw [if_neg h2] at hf
    by_cases h3 : made = 100
    · rw [if_pos h3] at hf; omega
    refine ⟨by omega, fun _ => by omega, fun _ => by omega, fun _ => ⟨by omega, trivial⟩⟩
  · simp only [if_neg h1] at hf ⊢
    by_cases h2 : x.op = 5 ∨ x.op = 26
    · simp only [if_pos h2] at hf ⊢
      cases hl : li L x.text with
      | none => rw [hl] at hf; simp at hf
      | some s =>
        have := hL _ s hl
        refine ⟨hm, fun h => absurd trivial h, fun _ => by simpa using this, fun h => absurd h (by omega)⟩
    · simp only [if_neg h2] at hf ⊢
      exact ⟨hm, fun h => absurd trivial h, fun h => by omega, fun h => by omega⟩
mutual
theorem sl_lo (L : Seen) (made : Nat) : ∀ r : Ro, LO L → made ≤ 100 → (sl L made r).2.2.2.2.1 = 0 →
    (sl L made r).2.2.1 ≤ 100 ∧ LO (seenBy L (sl L made r)) ∧ ∀ (k : Nat) (x : Tw), r.flat[k]? = some x → x.op = 4 ∨ x.op = 5 ∨ x.op = 26 → ∃ s, (sl L made r).2.2.2.1[k]? = some s ∧ 0 ≤ s ∧ s < 100
  | .node x ks, hL, hm, h0 => by
    unfold sl at h0 ⊢
    by_cases hf : (hdS x L made).2.2.2.2 = 0
    · simp only [if_pos hf] at h0 ⊢
      obtain ⟨g1, g2, g3, _⟩ := hdS_ok hL hm hf
      obtain ⟨k1, k2⟩ := sls_lo L (hdS x L made).2.2.1 ks hL g1 h0
      refine ⟨k1, ?_, ?_⟩
      · unfold seenBy
        by_cases hn : (hdS x L made).1 = ⟨#[]⟩
        · simp only [if_pos hn]; exact hL
        · simp only [if_neg hn]; exact hL.add _ _ (g2 hn).1 (g2 hn).2
      · intro k y hy ho
        simp only [Ro.flat] at hy
        cases k with
        | zero =>
          obtain rfl : x = y := by simpa using hy
          exact ⟨_, rfl, g3 ho⟩
        | succ k =>
          simp only [List.getElem?_cons_succ] at hy ⊢
          exact k2 k y hy ho
    · simp only [if_neg hf] at h0
      exact absurd h0 hf
theorem sls_lo (L : Seen) (made : Nat) : ∀ rs : List Ro, LO L → made ≤ 100 → (sls L made rs).2.2.1 = 0 →
    (sls L made rs).1 ≤ 100 ∧ ∀ (k : Nat) (x : Tw), (flats rs)[k]? = some x → x.op = 4 ∨ x.op = 5 ∨ x.op = 26 → ∃ s, (sls L made rs).2.1[k]? = some s ∧ 0 ≤ s ∧ s < 100
  | [], _, hm, _ => ⟨hm, fun k x hx => by simp [flats] at hx⟩
  | r :: rs, hL, hm, h0 => by
    rw [sls_cons] at h0 ⊢
    by_cases hf : (sl L made r).2.2.2.2.1 = 0
    · simp only [if_pos hf] at h0 ⊢
      obtain ⟨g1, g2, g3⟩ := sl_lo L made r hL hm hf
      obtain ⟨k1, k2⟩ := sls_lo (seenBy L (sl L made r)) (sl L made r).2.2.1 rs g2 g1 h0
      have hl := ((sl_facts L made r).2.2.2 hf).1
      refine ⟨k1, fun k x hx ho => ?_⟩
      simp only [flats] at hx
      by_cases hk : k < r.flat.length
      · rw [List.getElem?_append_left hk] at hx
        rw [List.getElem?_append_left (by omega)]
        exact g3 k x hx ho
      · rw [List.getElem?_append_right (by omega)] at hx
        rw [List.getElem?_append_right (by omega), hl]
        exact k2 _ x hx ho
    · simp only [if_neg hf] at h0
      exact absurd h0 hf
end
theorem params_facts {n : Int} : ∀ (ps : List Ro) (b : Ro) (i : Nat), okRs 40 n i (ps ++ [b]) → (i : Int) + ps.length + 1 = n → (flats ps).length = ps.length ∧ (∀ r ∈ ps, ∃ kids num text, r = .node (2, kids, num, text) []) ∧ ∃ may, okR may b
  | [], b, i, h, hn => ⟨rfl, fun r hr => by simp at hr, _, h.1⟩
  | .node (op, kids, num, text) ks :: ps, b, i, h, hn => by
    simp only [List.cons_append] at h
    obtain ⟨h1, h2⟩ := h
    obtain ⟨h3, h4, h5⟩ := params_facts ps b (i + 1) h2 (by simp only [List.length_cons] at hn; omega)
    obtain ⟨hg, hk, _⟩ := h1
    obtain ⟨hq, _⟩ := good_form hg
    have hop : op = 2 := by
      simp only [List.length_cons] at hn
      dsimp only [Tw.op] at hq
      unfold partB paramsB at hq
      simp only [if_pos, Bool.or_eq_true, Bool.and_eq_true, decide_eq_true_eq, beq_iff_eq] at hq
      omega
    subst hop
    have hf : formT 2 = some (39, 0, 0, 41) := rfl
    have := kids_of hg hf
    dsimp only [Tw.kids] at hk
    have : ks = [] := List.eq_nil_of_length_eq_zero (by omega)
    subst this
    refine ⟨by simp only [flats, Ro.flat, List.length_append, List.length_cons, List.length_nil, h3]; omega, ?_, h5⟩
    intro r hr
    rcases List.mem_cons.1 hr with rfl | hr
    · exact ⟨_, _, _, rfl⟩
    · exact h4 r hr
/-- A flow without a fault has at most 100 parameters. -/
theorem params_few : ∀ (ps : List Ro) (rest : List Ro) (L : Seen) (made : Nat), (∀ r ∈ ps, ∃ kids num text, r = .node (2, kids, num, text) []) → LO L → made ≤ 100 → (sls L made (ps ++ rest)).2.2.1 = 0 → made + ps.length ≤ 100
  | [], rest, L, made, _, _, hm, _ => by simpa using hm
  | r :: ps, rest, L, made, hp, hL, hm, h0 => by
    obtain ⟨kids, num, text, rfl⟩ := hp r (by simp)
    rw [List.cons_append, sls_cons] at h0
    by_cases hf : (sl L made (.node (2, kids, num, text) [])).2.2.2.2.1 = 0
    · simp only [if_pos hf] at h0
      obtain ⟨g1, g2, _⟩ := sl_lo L made _ hL hm hf
      have hf2 := hf
      unfold sl at hf2
      by_cases hh : (hdS (2, kids, num, text) L made).2.2.2.2 = 0
      · obtain ⟨_, _, _, g4⟩ := hdS_ok hL hm hh
        obtain ⟨g5, g6⟩ := g4 rfl
        have hmade : (sl L made (.node (2, kids, num, text) [])).2.2.1 = made + 1 := by
          unfold sl
          simp only [if_pos hh, sls]
          exact g6
        have := params_few ps rest _ _ (fun r hr => hp r (by simp [hr])) g2 g1 h0
        rw [hmade] at this
        simp only [List.length_cons]
        omega
      · simp only [if_neg hh] at hf2
        exact absurd hf2 hh
    · simp only [if_neg hf] at h0
      exact absurd h0 hf
end Go.Proofs.Ytkpgnopimnamfaa
namespace Go.Proofs.Ytkpgnopimnamfaa
/-- An instruction that stands for forks alone. -/
def ForkP (p : Ins → Bool) : Prop := (∀ (op A num : Int) (text : ByteArray), ¬ op = 53 → ¬ op = 28 → p (op, A, num, text) = false) ∧ ∀ A : Int, ((if p (53, A, 0, noT) = true then 1 else 0) + (if p (28, 0, 0, noT) = true then 1 else 0) : Nat) = 1
theorem seqG_forks {S : Nat → Int} {p : Ins → Bool} : ∀ (ks : List Ro) (a fr : Nat), (∀ k ∈ ks, ∀ a fr, (gen S k a fr).countP p = k.flat.countP isFork) → (seqG (gk S ks) a fr).countP p = (flats ks).countP isFork
  | [], _, _, _ => rfl
  | k :: ks, a, fr, h => by
    simp only [gk, seqG, flats, List.countP_append]
    rw [h k (by simp), seqG_forks ks _ _ (fun k' hk' => h k' (by simp [hk']))]
theorem plain_forks {p : Ins → Bool} (hp : ForkP p) (x : Tw) (s : Int) (h53 : ¬ x.op = 53) (h28 : ¬ x.op = 28) : (plainIns x s).countP p = 0 := by
  unfold plainIns
  by_cases h1 : x.op = 3
  · rw [if_pos h1]; rfl
  rw [if_neg h1]
  by_cases h2 : x.op = 4 ∨ x.op = 5
  · rw [if_pos h2]; simp [hp.1]
  rw [if_neg h2]
  by_cases h3 : x.op = 26
  · rw [if_pos h3]; simp [hp.1]
  rw [if_neg h3]
  by_cases h4 : x.op = 11
  · rw [if_pos h4]; simp [hp.1]
  rw [if_neg h4]
  by_cases h5 : x.op = 23
  · rw [if_pos h5]; simp [hp.1]
  rw [if_neg h5]
  by_cases h6 : x.op = 24
  · rw [if_pos h6]; simp [hp.1]
  rw [if_neg h6]
  by_cases h7 : x.op = 25
  · rw [if_pos h7]; simp [hp.1]
  rw [if_neg h7]
  by_cases h8 : x.op = 50 ∨ x.op = 51
  · rw [if_pos h8, List.countP_singleton, hp.1 _ _ _ _ h53 h28]; rfl
  rw [if_neg h8]
  by_cases h9 : x.op = 56
  · rw [if_pos h9]; simp [hp.1]
  rw [if_neg h9, List.countP_singleton, hp.1 _ _ _ _ h53 h28]; rfl
theorem gen_forks (S : Nat → Int) {p : Ins → Bool} (hp : ForkP p) : ∀ (n : Nat) (r : Ro), r.flat.length ≤ n → ∀ may, okR may r → ¬ r.op = 1 → ∀ a fr, (gen S r a fr).countP p = r.flat.countP isFork
  | 0, r, hn, _, _, _, _, _ => by have := flat_pos r; omega
  | n + 1, .node (op, kids, num, text) ks, hn, may, hok, hop, a, fr => by
    obtain ⟨hg, hk, hoks⟩ := hok
    dsimp only [Tw.kids] at hk hoks
    dsimp only [Ro.op, Tw.op] at hop
    simp only [Ro.flat, List.length_cons] at hn
    have hkp : ∀ k ∈ ks, ∀ a fr, (gen S k a fr).countP p = k.flat.countP isFork := by
      intro k hkm a' fr'
      obtain ⟨may', hok'⟩ := okRs_mem hoks k hkm
      have h1 := flats_mem hkm
      exact gen_forks S hp n k (by omega) may' hok' (okRs_op (partOf40 hg hop) hoks k hkm).1 a' fr'
    have e1 : ∀ A : Int, p (1, A, 0, noT) = false := fun A => hp.1 _ _ _ _ (by decide) (by decide)
    have e2 : ∀ A : Int, p (2, A, 0, noT) = false := fun A => hp.1 _ _ _ _ (by decide) (by decide)
    have e3 : ∀ A : Int, p (3, A, 0, noT) = false := fun A => hp.1 _ _ _ _ (by decide) (by decide)
    have e4 : ∀ A : Int, p (4, A, 0, noT) = false := fun A => hp.1 _ _ _ _ (by decide) (by decide)
    have e5 : ∀ A : Int, p (5, A, 0, noT) = false := fun A => hp.1 _ _ _ _ (by decide) (by decide)
    simp only [gen, Ro.flat, List.countP_cons]
    by_cases h6 : op = 6
    · subst h6
      have hkk := kids_of hg (show formT 6 = some (42, 2, 3, 44) from rfl)
      by_cases h2 : ks.length = 2
      · obtain ⟨c, t, rfl⟩ := len2 h2
        simp only [gk, comb_if2, if2G, flats, List.countP_append, List.countP_cons, List.append_nil]
        rw [hkp c (by simp), hkp t (by simp), e2]
        simp [isFork, Tw.op]
      · obtain ⟨c, t, e, rfl⟩ := len3 (ks := ks) (by omega)
        simp only [gk, comb_if3, if3G, flats, List.countP_append, List.countP_cons, List.append_nil]
        rw [hkp c (by simp), hkp t (by simp), hkp e (by simp), e2, e1]
        simp [isFork, Tw.op]
    by_cases h7 : op = 7
    · subst h7
      have hkk := kids_of hg (show formT 7 = some (42, 2, 2, 44) from rfl)
      obtain ⟨c, b, rfl⟩ := len2 (ks := ks) (by omega)
      simp only [gk, comb_while, whileG, flats, List.countP_append, List.countP_cons, List.append_nil, List.countP_nil]
      rw [hkp c (by simp), hkp b (by simp), e2, e1]
      simp [isFork, Tw.op]
    by_cases h30 : op = 30
    · subst h30
      have hkk := kids_of hg (show formT 30 = some (42, 2, 2, 46) from rfl)
      obtain ⟨c, b, rfl⟩ := len2 (ks := ks) (by omega)
      simp only [gk, comb_or, boolG, flats, List.countP_append, List.countP_cons, List.append_nil, List.countP_nil]
      rw [hkp c (by simp), hkp b (by simp), e3, e5]
      simp [isFork, Tw.op]
    by_cases h31 : op = 31
    · subst h31
      have hkk := kids_of hg (show formT 31 = some (42, 2, 2, 46) from rfl)
      obtain ⟨c, b, rfl⟩ := len2 (ks := ks) (by omega)
      simp only [gk, comb_and, boolG, flats, List.countP_append, List.countP_cons, List.append_nil, List.countP_nil]
      rw [hkp c (by simp), hkp b (by simp), e4, e5]
      simp [isFork, Tw.op]
    by_cases h53 : op = 53
    · subst h53
      have hkk := kids_of hg (show formT 53 = some (42, 1, 1, 47) from rfl)
      obtain ⟨b, rfl⟩ := len1 (ks := ks) (by omega)
      simp only [gk, comb_fork, forkG, flats, List.countP_append, List.countP_cons, List.append_nil, List.countP_nil]
      rw [hkp b (by simp), e1]
      have := hp.2 ((fr + 2 : Nat) : Int)
      have e : isFork (53, kids, num, text) = true := rfl
      rw [e]
      simp only [if_true, Bool.false_eq_true, if_false]
      omega
    · rw [comb_rest ⟨hop, h6, h7, h30, h31, h53⟩, List.countP_append, seqG_forks ks _ _ hkp, plain_forks hp _ _ h53 (by
        show ¬ op = 28
        rintro rfl
        obtain ⟨_, t, l, m, q, hf, _⟩ := good_form hg
        have : formT 28 = none := rfl
        rw [this] at hf; cases hf)]
      have e : isFork (op, kids, num, text) = false := by simp [isFork, Tw.op, h53]
      simp [e]
theorem begs_forkP : ForkP begs := ⟨fun op A num text h _ => by simp [begs, h], fun A => rfl⟩
theorem ends_forkP : ForkP ends28 := ⟨fun op A num text _ h => by simp [ends28, h], fun A => rfl⟩
/-- From each place of a piece a chain ends. -/
theorem frag_chain {c : List Ins} (h : ∀ (i : Nat) (x : Ins), c[i]? = some x → ∀ AA : Nat, x.1 = 1 → x.2.1 = AA → i < AA ∨ CostAt c 0 AA) (hj : ∀ (i : Nat) (x : Ins), c[i]? = some x → x.1 = 1 → ∃ AA : Nat, x.2.1 = AA ∧ AA ≤ c.length) :
    ∀ (g k : Nat), c.length - k ≤ g → k ≤ c.length → ∃ m, m ≤ c.length - k ∧ Chain (c ++ [(28, 0, 0, noT)]) k m
  | 0, k, hg, hk => by
    obtain rfl : k = c.length := by omega
    exact ⟨0, Nat.zero_le _, .stop _ 28 0 0 noT (by simp) (by decide) (by decide)⟩
  | g + 1, k, hg, hk => by
    by_cases hkl : k = c.length
    · subst hkl
      exact ⟨0, Nat.zero_le _, .stop _ 28 0 0 noT (by simp) (by decide) (by decide)⟩
    have hlt : k < c.length := by omega
    obtain ⟨x, hx⟩ : ∃ x, c[k]? = some x := ⟨_, List.getElem?_eq_some_iff.2 ⟨hlt, rfl⟩⟩
    have hx2 : (c ++ [((28 : Int), (0 : Int), (0 : Int), noT)])[k]? = some x := by rw [List.getElem?_append_left hlt]; exact hx
    obtain ⟨op, A, num, text⟩ := x
    by_cases h1 : op = 1
    · subst h1
      obtain ⟨AA, hA, hAl⟩ := hj k _ hx rfl
      dsimp only at hA
      subst hA
      rcases h k _ hx AA rfl rfl with hlt2 | ⟨k', y, g1, g2, g3, g4⟩
      · obtain ⟨m, hm, hc⟩ := frag_chain h hj g AA (by omega) hAl
        exact ⟨m + 1, by omega, .jump k AA num text m hx2 hc⟩
      · obtain ⟨yo, y1, y2, y3⟩ := y
        refine ⟨0 + 1, by omega, .jump k AA num text 0 hx2 (.stop AA yo y1 y2 y3 ?_ g3 g4)⟩
        rw [Nat.zero_add] at g1
        subst g1
        rw [List.getElem?_append_left (List.getElem?_eq_some_iff.1 g2).1]; exact g2
    by_cases h5 : op = 5
    · subst h5
      obtain ⟨m, hm, hc⟩ := frag_chain h hj g (k + 1) (by omega) (by omega)
      exact ⟨m + 1, by omega, .bool k A num text m hx2 hc⟩
    · exact ⟨0, Nat.zero_le _, .stop k op A num text hx2 h1 h5⟩
end Go.Proofs.Ytkpgnopimnamfaa
namespace Go.Proofs.Ytkpgnopimnamfaa
open Go.ChangeShapes Go.WideShapes Go.ChangeAt Go.RowKit
/-- What a piece that begins and ends without depth tells of the code that is it and an end. -/
theorem frag_facts {c : List Ins} (hc : Frag noX noK c 0 0 0) (hl : c.length ≤ 8000) :
    (∀ (k : Nat) (x : Ins), (c ++ [((28 : Int), (0 : Int), (0 : Int), noT)])[k]? = some x → RightI (c.length + 1) x) ∧ (∃ Dp, Depths (c ++ [(28, 0, 0, noT)]) Dp) ∧
      (∀ k, k < c.length + 1 → ∃ m, m ≤ c.length + 1 ∧ Chain (c ++ [(28, 0, 0, noT)]) k m) := by
  obtain ⟨E, h1, h2, h3, h4⟩ := hc
  simp only [Nat.zero_add] at h1 h2 h3 h4
  have hn : (c ++ [((28 : Int), (0 : Int), (0 : Int), noT)]).length = c.length + 1 := by simp
  have hok : ∀ (i : Nat) (x : Ins), c[i]? = some x → OkI E 0 c.length i x ∧ (aOf x.1 = 116 → 0 ≤ x.2.1 ∧ x.2.1 < ((c.length + 1 : Nat) : Int)) ∧ (x.1 = 1 → ∃ AA : Nat, x.2.1 = AA ∧ AA ≤ c.length) := by
    intro i x hx
    obtain ⟨ok, _, _⟩ := h4 i x hx
    cases ok with
    | plain op A num text g1 g2 g3 g4 g5 g6 => exact ⟨.plain op A num text g1 g2 g3 g4 g5 g6, fun h => by simp [h] at g4, fun h => by have h : op = 1 := h; subst h; simp [show aOf 1 = 116 from by decide] at g4⟩
    | many op A num text g1 g2 g3 g4 => exact ⟨.many op A num text g1 g2 g3 g4, fun h => by have h : aOf op = 116 := h; exfalso; revert h; rcases g1 with rfl | rfl | rfl <;> decide, fun h => by have h : op = 1 := h; omega⟩
    | ends op A num text g1 g2 => exact ⟨.ends op A num text g1 g2, fun h => by have h : aOf op = 116 := h; exfalso; revert h; rcases g1 with rfl | rfl | rfl <;> decide, fun h => by have h : op = 1 := h; omega⟩
    | jump AA num text g1 =>
      obtain ⟨g2, g3, g4⟩ := g1.resolve_left id
      exact ⟨.jump AA num text g2 g3 g4, fun _ => by show (0 : Int) ≤ AA ∧ (AA : Int) < _; omega, fun _ => ⟨AA, rfl, g3⟩⟩
    | branch AA num text g1 g2 g5 =>
      obtain ⟨g2, g3, g4⟩ := g2.resolve_left id
      exact ⟨.branch AA num text g2 g3 g1 g4 g5, fun _ => by show (0 : Int) ≤ AA ∧ (AA : Int) < _; omega, fun h => absurd h (by show ¬ (2 : Int) = 1; decide)⟩
    | orand op AA num text g0 g1 g2 g5 =>
      obtain ⟨g2, g3, g4⟩ := g2.resolve_left id
      exact ⟨.orand op AA num text g0 g2 g3 g1 g4 g5, fun _ => by show (0 : Int) ≤ AA ∧ (AA : Int) < _; omega, fun h => by have h : op = 1 := h; omega⟩
    | fork AA num text g1 g5 =>
      obtain ⟨g2, g3, g4⟩ := g1.resolve_left id
      exact ⟨.fork AA num text g2 g3 g4 g5, fun _ => by show (0 : Int) ≤ AA ∧ (AA : Int) < _; omega, fun h => absurd h (by show ¬ (53 : Int) = 1; decide)⟩
  have ri28 := ri_0 28 (by unfold validOp; omega) (by decide) (by decide)
  have hri : ∀ x : Ins, RI x → (aOf x.1 = 116 → 0 ≤ x.2.1 ∧ x.2.1 < ((c.length + 1 : Nat) : Int)) → RightI (c.length + 1) x := fun x hr ht => by
    obtain ⟨r1, r2, r3, r4⟩ := hr
    by_cases h : aOf x.1 = 116
    · obtain ⟨t0, t1⟩ := ht h
      exact ⟨r1, r2, t0, by unfold topOf; rw [if_pos h]; exact t1, r4⟩
    · obtain ⟨t0, t1⟩ := r3 h
      refine ⟨r1, r2, t0, ?_, r4⟩
      unfold topOf at t1 ⊢
      rw [if_neg h] at t1 ⊢
      exact t1
  refine ⟨fun k x hx => ?_, ⟨E, h1, fun at_ x hx => ?_⟩, fun k hk => ?_⟩
  · by_cases hk : k < c.length
    · rw [List.getElem?_append_left hk] at hx
      exact hri x (h4 k x hx).2.1 (hok k x hx).2.1
    · have hlt := (List.getElem?_eq_some_iff.1 hx).1
      rw [hn] at hlt
      obtain rfl : k = c.length := by omega
      obtain rfl : (28, 0, 0, noT) = x := by simpa using hx
      exact hri _ ri28 (fun h => absurd h (by decide))
  · rw [hn]
    have hlt := (List.getElem?_eq_some_iff.1 hx).1
    rw [hn] at hlt
    have hb := h3 at_ (Nat.zero_le _) (by omega)
    refine ⟨hb.1, by omega, ?_⟩
    by_cases hk : at_ < c.length
    · rw [List.getElem?_append_left hk] at hx
      exact .inl ⟨by omega, (hok at_ x hx).1⟩
    · obtain rfl : at_ = c.length := by omega
      obtain rfl : (28, 0, 0, noT) = x := by simpa using hx
      exact .inr ⟨rfl, h2⟩
  · obtain ⟨m, hm, hch⟩ := frag_chain (c := c) (fun i x hx AA g1 g2 => by
      rcases (h4 i x hx).2.2 AA g1 g2 with h | h | h
      · exact .inl h
      · exact h.elim
      · exact .inr h) (fun i x hx g => (hok i x hx).2.2 g) (c.length - k) k (Nat.le_refl _) (by omega)
    exact ⟨m, by omega, hch⟩
/-- A whole flow. -/
theorem flow_facts {kids num : Int} {text : ByteArray} {ks : List Ro} {T : List Tw} {outs : List Int} (hfl : (Ro.node (1, kids, num, text) ks).flat = T) (hok : okR (fun _ => true) (.node (1, kids, num, text) ks)) (hT : T.length ≤ 2048) (hf : (sl [] 0 (.node (1, kids, num, text) ks)).2.2.2.2.1 = 0) (ho : outs = (sl [] 0 (.node (1, kids, num, text) ks)).2.2.2.1) :
    ∃ c : List Ins, gen (fun k => outs.getD k 0) (.node (1, kids, num, text) ks) 0 0 = c ++ [(28, 0, 0, noT)] ∧ Frag noX noK c 0 0 0 ∧ c.length ≤ 8000 ∧ 1 ≤ kids ∧ kids ≤ 101 ∧
      (∀ p, ForkP p → c.countP p = T.countP isFork) := by
  obtain ⟨hg, hk, hoks⟩ := hok
  dsimp only [Tw.kids, Tw.op] at hk hoks
  have hkk := kids_of hg (show formT 1 = some (39, 1, 2048, 40) from rfl)
  obtain ⟨ps', b, rfl⟩ : ∃ ps' b, ks = ps' ++ [b] := by
    rcases List.eq_nil_or_concat ks with rfl | ⟨ps', b, rfl⟩
    · simp at hk; omega
    · exact ⟨ps', b, by simp⟩
  change okRs 40 kids 0 (ps' ++ [b]) at hoks
  have hcnt : ((0 : Nat) : Int) + ps'.length + 1 = kids := by rw [← hk]; simp
  obtain ⟨hp, hb⟩ := params_count ps' b 0 hoks hcnt
  obtain ⟨hpl, hpn, may, hbok⟩ := params_facts ps' b 0 hoks hcnt
  have hLO : LO [] := fun k s h => by simp [li] at h
  obtain ⟨_, _, hso⟩ := sl_lo [] 0 _ hLO (by omega) hf
  have hsok : SOK (fun k => outs.getD k 0) (Ro.node (1, kids, num, text) (ps' ++ [b])).flat 0 := by
    intro k x hx hop
    obtain ⟨s, hs, hs0, hs1⟩ := hso k x hx hop
    rw [← ho] at hs
    have e : outs.getD k 0 = s := by rw [List.getD_eq_getElem?_getD, hs]; rfl
    show 0 ≤ outs.getD (0 + k) 0 ∧ outs.getD (0 + k) 0 < 100
    rw [Nat.zero_add, e]
    exact ⟨hs0, hs1⟩
  simp only [Ro.flat] at hsok
  have hsb := hsok.tail
  rw [flats_app] at hsb
  have hsb2 := hsb.right
  simp only [flats, List.append_nil] at hsb2
  have hgl : ∀ l : List Ro, gk (fun k => outs.getD k 0) (l ++ [b]) = gk (fun k => outs.getD k 0) l ++ [(b.flat.length, gen (fun k => outs.getD k 0) b)] := by
    intro l
    induction l with
    | nil => rfl
    | cons r l ih => simp only [List.cons_append, gk]; rw [ih]
  have hgen : gen (fun k => outs.getD k 0) (.node (1, kids, num, text) (ps' ++ [b])) 0 0 = gen (fun k => outs.getD k 0) b (0 + 1 + (flats ps').length) 0 ++ [(28, 0, 0, noT)] := by
    simp only [gen]
    unfold comb
    rw [if_pos rfl, flowG, hgl]
    simp only [List.getLast?_append, List.getLast?_singleton, Option.some_or]
    rw [show 0 + (gk (fun k => outs.getD k 0) ps' ++ [(b.flat.length, gen (fun k => outs.getD k 0) b)]).length = 0 + 1 + (flats ps').length from by rw [List.length_append, gk_len, hpl]; simp; omega]
  have hfew := params_few ps' [b] [] 0 hpn hLO (by omega) (by
    have h := hf
    unfold sl at h
    by_cases hh : (hdS (1, kids, num, text) [] 0).2.2.2.2 = 0
    · simp only [if_pos hh] at h
      exact h
    · simp only [if_neg hh] at h
      exact absurd h hh)
  refine ⟨_, hgen, ((gen_frag _ _ b (Nat.le_refl _) may hbok).2 (.inr hb)) _ hsb2 0, ?_, hkk.1, by omega, fun p hfp => ?_⟩
  · have h1 := gen_len (fun k => outs.getD k 0) b (0 + 1 + (flats ps').length) 0
    have h2 := flats_mem (k := b) (ks := ps' ++ [b]) (by simp)
    have h3 : (Ro.node (1, kids, num, text) (ps' ++ [b])).flat.length ≤ 2048 := by rw [hfl]; exact hT
    simp only [Ro.flat, List.length_cons] at h3
    omega
  · rw [gen_forks _ hfp _ b (Nat.le_refl _) may hbok (by rw [hb]; decide), ← hfl]
    simp only [Ro.flat, List.countP_cons, flats_app, flats, List.append_nil, List.countP_append]
    have hz : (flats ps').countP isFork = 0 := by
      rw [List.countP_eq_zero]
      intro x hx
      have : ∀ l : List Ro, (∀ r ∈ l, ∃ kids num text, r = .node (2, kids, num, text) []) → ∀ x ∈ flats l, x.op = 2 := by
        intro l
        induction l with
        | nil => intro _ x hx; simp [flats] at hx
        | cons r l ih =>
          intro hl x hx
          obtain ⟨k, n, t, rfl⟩ := hl r (by simp)
          simp only [flats, Ro.flat, List.cons_append, List.nil_append, List.mem_cons] at hx
          rcases hx with rfl | hx
          · rfl
          · exact ih (fun r hr => hl r (by simp [hr])) x hx
      have h2 := this ps' hpn x hx
      simp [isFork, h2]
    have e : isFork (1, kids, num, text) = false := rfl
    rw [hz, e]
    simp
/-- CompileRight returns true. -/
theorem rights_any (w : World) (pa : Option Addr) (cap : Nat) (T : List Tw) (hA : TreeAt w pa w.heap.size T) :
    Calls Try.prog 4 #[.slice pa T.length cap] w fun e w' => e = .returned (.bool true) ∧ Below w.heap.size w w' := by
  by_cases hT : T.length ≤ 5000
  · obtain ⟨l, at_, e, hs⟩ := slotsIs T
    have hs0 := hs
    rcases hs with ⟨h, rfl, rfl, rfl⟩ | ⟨h, x, ks, hfl, hok, hT', hc⟩
    · exact rights_err w pa cap T hT hA _ _ hs0 h
    · obtain ⟨op, kids, num, text⟩ := x
      dsimp only [Tw.op] at hc
      rcases hc with ⟨hop, rfl, rfl, rfl⟩ | ⟨rfl, hf, rfl, rfl, rfl⟩ | ⟨rfl, hf, rfl, rfl, rfl⟩
      · exact rights_err w pa cap T hT hA _ _ hs0 (by decide)
      · exact rights_err w pa cap T hT hA _ _ hs0 hf
      · obtain ⟨c, hgen, hfr, hcl, hk0, hk1, hcnt⟩ := flow_facts hfl hok hT' hf rfl
        obtain ⟨q1, ⟨Dp, q2⟩, q3⟩ := frag_facts hfr hcl
        have hlen : (c ++ [((28 : Int), (0 : Int), (0 : Int), noT)]).length = c.length + 1 := by simp
        refine rights_ok w pa cap kids num text ks T hfl hok hT' hA _ hs0 (by rw [← hfl]; exact ((sl_facts [] 0 _).2.2.2 hf).1) (c ++ [(28, 0, 0, noT)]) hgen c 0 0 noT rfl hk0 hk1 (by rw [hlen]; exact q1) Dp q2 (by rw [hlen]; exact q3) ?_ ?_
        · rw [List.countP_append, hcnt begs begs_forkP]; rfl
        · rw [List.countP_append, hcnt ends28 ends_forkP]; rfl
  · exact rights_long w pa cap T.length (by omega)
end Go.Proofs.Ytkpgnopimnamfaa
