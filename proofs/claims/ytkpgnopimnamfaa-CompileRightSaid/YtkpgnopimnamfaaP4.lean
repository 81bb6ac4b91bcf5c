/- The plain law: each twig but blocks, the flow and its parameters has just one instruction that costs a step. -/
import Derived.Test.YtkpgnopimnamfaaF0
namespace Go.Proofs.Ytkpgnopimnamfaa
def costly (x : Ins) : Bool := !(x.1 == 1) && !(x.1 == 5) && !(x.1 == 28)
def counts (x : Tw) : Bool := !(x.op == 1) && !(x.op == 2) && !(x.op == 3)
def Ro.op : Ro → Int
  | .node x _ => x.op
theorem partB_op {p : Nat} {i n op : Int} (hp : p ≠ 40) (h : partB p i n op = true) : ¬ op = 1 ∧ ¬ op = 2 := by
  unfold partB at h
  rw [if_neg hp] at h
  by_cases h1 : p = 41
  · rw [if_pos h1] at h; cases h
  rw [if_neg h1] at h
  by_cases h2 : p = 43
  · rw [if_pos h2] at h
    unfold stmtB at h
    simp only [decide_eq_true_eq] at h
    omega
  rw [if_neg h2] at h
  by_cases h3 : p = 44
  · rw [if_pos h3] at h
    unfold headedB exprB at h
    simp only [Bool.or_eq_true, Bool.and_eq_true, decide_eq_true_eq, beq_iff_eq] at h
    omega
  rw [if_neg h3] at h
  by_cases h4 : p = 46
  · rw [if_pos h4] at h
    unfold exprB at h
    simp only [decide_eq_true_eq] at h
    omega
  rw [if_neg h4] at h
  simp only [beq_iff_eq] at h
  omega
theorem okR_op {may : Int → Bool} {r : Ro} (h : okR may r) : may r.op = true := by
  obtain ⟨⟨op, kids, num, text⟩, ks⟩ := r
  exact (good_form h.1).1
theorem okRs_op {p : Nat} {n : Int} (hp : p ≠ 40) : ∀ {ks : List Ro} {i : Nat}, okRs p n i ks → ∀ k ∈ ks, ¬ k.op = 1 ∧ ¬ k.op = 2
  | [], _, _, k, hk => absurd hk (by simp)
  | r :: rs, i, h, k, hk => by
    rcases List.mem_cons.1 hk with rfl | hk
    · exact partB_op hp (okR_op h.1)
    · exact okRs_op hp h.2 k hk
theorem part40 {op : Int} {t p : Nat} {l m : Int} (h : formT op = some (t, l, m, p)) (h1 : ¬ op = 1) : p ≠ 40 := by
  intro hp
  subst hp
  unfold formT at h
  rw [if_neg h1] at h
  by_cases c0 : op = 2 ∨ op = 26 ∨ op = 56
  · rw [if_pos c0] at h
    simp only [Option.some.injEq, Prod.mk.injEq] at h
    exact absurd h.2.2.2 (by decide)
  rw [if_neg c0] at h
  by_cases c1 : op = 3
  · rw [if_pos c1] at h
    simp only [Option.some.injEq, Prod.mk.injEq] at h
    exact absurd h.2.2.2 (by decide)
  rw [if_neg c1] at h
  by_cases c2 : op = 6
  · rw [if_pos c2] at h
    simp only [Option.some.injEq, Prod.mk.injEq] at h
    exact absurd h.2.2.2 (by decide)
  rw [if_neg c2] at h
  by_cases c3 : op = 7
  · rw [if_pos c3] at h
    simp only [Option.some.injEq, Prod.mk.injEq] at h
    exact absurd h.2.2.2 (by decide)
  rw [if_neg c3] at h
  by_cases c4 : op = 24
  · rw [if_pos c4] at h
    simp only [Option.some.injEq, Prod.mk.injEq] at h
    exact absurd h.2.2.2 (by decide)
  rw [if_neg c4] at h
  by_cases c5 : op = 25
  · rw [if_pos c5] at h
    simp only [Option.some.injEq, Prod.mk.injEq] at h
    exact absurd h.2.2.2 (by decide)
  rw [if_neg c5] at h
  by_cases c6 : op = 53
  · rw [if_pos c6] at h
    simp only [Option.some.injEq, Prod.mk.injEq] at h
    exact absurd h.2.2.2 (by decide)
  rw [if_neg c6] at h
  by_cases c7 : op = 20 ∨ op = 21 ∨ op = 22 ∨ op = 23 ∨ op = 57
  · rw [if_pos c7] at h
    simp only [Option.some.injEq, Prod.mk.injEq] at h
    exact absurd h.2.2.2 (by decide)
  rw [if_neg c7] at h
  by_cases c8 : op = 4 ∨ op = 5
  · rw [if_pos c8] at h
    simp only [Option.some.injEq, Prod.mk.injEq] at h
    exact absurd h.2.2.2 (by decide)
  rw [if_neg c8] at h
  by_cases c9 : op = 8 ∨ op = 9 ∨ op = 10 ∨ op = 11 ∨ op = 43 ∨ op = 44 ∨ op = 45 ∨ op = 46 ∨ op = 47 ∨ op = 48 ∨ op = 52 ∨ op = 54 ∨ op = 55
  · rw [if_pos c9] at h
    simp only [Option.some.injEq, Prod.mk.injEq] at h
    exact absurd h.2.2.2 (by decide)
  rw [if_neg c9] at h
  by_cases c10 : op = 30 ∨ op = 31 ∨ op = 32 ∨ op = 33 ∨ op = 34 ∨ op = 35 ∨ op = 36 ∨ op = 37 ∨ op = 38 ∨ op = 39 ∨ op = 40 ∨ op = 41 ∨ op = 42
  · rw [if_pos c10] at h
    simp only [Option.some.injEq, Prod.mk.injEq] at h
    exact absurd h.2.2.2 (by decide)
  rw [if_neg c10] at h
  by_cases c11 : op = 50 ∨ op = 51
  · rw [if_pos c11] at h
    simp only [Option.some.injEq, Prod.mk.injEq] at h
    exact absurd h.2.2.2 (by decide)
  rw [if_neg c11] at h
  cases h
theorem partOf40 {op kids num : Int} {text : ByteArray} {q : Bool} (h : good (op, kids, num, text) q = true) (h1 : ¬ op = 1) : partOf op ≠ 40 := by
  obtain ⟨_, t, l, m, p, hf, _⟩ := good_form h
  rw [partOf_eq hf]
  exact part40 hf h1
theorem params_count {n : Int} : ∀ (ps : List Ro) (b : Ro) (i : Nat), okRs 40 n i (ps ++ [b]) → (i : Int) + ps.length + 1 = n → (flats ps).countP counts = 0 ∧ b.op = 3
  | [], b, i, h, hn => by
    refine ⟨rfl, ?_⟩
    have hq := okR_op h.1
    unfold partB paramsB at hq
    simp only [if_pos, Bool.or_eq_true, Bool.and_eq_true, decide_eq_true_eq, beq_iff_eq] at hq
    simp only [List.length_nil] at hn
    omega
  | .node (op, kids, num, text) ks :: ps, b, i, h, hn => by
    simp only [List.cons_append] at h
    obtain ⟨h1, h2⟩ := h
    have h3 := params_count ps b (i + 1) h2 (by simp only [List.length_cons] at hn; omega)
    obtain ⟨hg, hk, _⟩ := h1
    obtain ⟨hq, _⟩ := good_form hg
    have hop : op = 2 := by
      simp only [List.length_cons] at hn
      dsimp only [Tw.op] at hq
      unfold partB paramsB at hq
      simp only [if_pos, Bool.or_eq_true, Bool.and_eq_true, decide_eq_true_eq, beq_iff_eq] at hq
      omega
    subst hop
    have hf : formT 2 = some (39, 0, 0, 41) := rfl
    have := kids_of hg hf
    dsimp only [Tw.kids] at hk
    have : ks = [] := List.eq_nil_of_length_eq_zero (by omega)
    subst this
    refine ⟨?_, h3.2⟩
    simp only [flats, Ro.flat, List.countP_append, h3.1]
    rfl
theorem seqG_count {S : Nat → Int} : ∀ (ks : List Ro) (a fr : Nat), (∀ k ∈ ks, ∀ a fr, (gen S k a fr).countP costly = k.flat.countP counts) → (seqG (gk S ks) a fr).countP costly = (flats ks).countP counts
  | [], _, _, _ => rfl
  | k :: ks, a, fr, h => by
    simp only [gk, seqG, flats, List.countP_append]
    rw [h k (by simp), seqG_count ks _ _ (fun k' hk' => h k' (by simp [hk']))]
theorem plain_count {op kids num : Int} {text : ByteArray} {q : Bool} (h : good (op, kids, num, text) q = true) (h1 : ¬ op = 1) (h2 : ¬ op = 2) (s : Int) : (plainIns (op, kids, num, text) s).countP costly = if counts (op, kids, num, text) = true then 1 else 0 := by
  have h28 : ¬ op = 28 := by
    rintro rfl
    obtain ⟨_, t, l, m, p, hf, _⟩ := good_form h
    have : formT 28 = none := rfl
    rw [this] at hf; cases hf
  unfold plainIns counts
  dsimp only [Tw.op, Tw.kids, Tw.num, Tw.text]
  by_cases h3 : op = 3
  · subst h3; rfl
  have hc : (!(op == 1) && !(op == 2) && !(op == 3)) = true := by simp [h1, h2, h3]
  rw [if_neg h3, hc, if_pos rfl]
  by_cases h4 : op = 4 ∨ op = 5
  · rw [if_pos h4]; rfl
  rw [if_neg h4]
  by_cases h5 : op = 26
  · rw [if_pos h5]; rfl
  rw [if_neg h5]
  by_cases h6 : op = 11
  · rw [if_pos h6]; rfl
  rw [if_neg h6]
  by_cases h7 : op = 23
  · rw [if_pos h7]; rfl
  rw [if_neg h7]
  by_cases h8 : op = 24
  · rw [if_pos h8]; rfl
  rw [if_neg h8]
  by_cases h9 : op = 25
  · rw [if_pos h9]; rfl
  rw [if_neg h9]
  by_cases h10 : op = 50 ∨ op = 51
  · rw [if_pos h10]
    rcases h10 with rfl | rfl <;> rfl
  rw [if_neg h10]
  by_cases h11 : op = 56
  · rw [if_pos h11]; rfl
  rw [if_neg h11]
  have : costly (op, 0, 0, noT) = true := by
    have h5' : ¬ op = 5 := fun e => h4 (.inr e)
    simp [costly, h1, h5', h28]
  simp [this]
theorem comb_if2 (S : Nat → Int) (kids num : Int) (text : ByteArray) (c t : Nat × Gen) (a fr : Nat) : comb (6, kids, num, text) S [c, t] a fr = if2G c t a fr := rfl
theorem comb_if3 (S : Nat → Int) (kids num : Int) (text : ByteArray) (c t e : Nat × Gen) (a fr : Nat) : comb (6, kids, num, text) S [c, t, e] a fr = if3G c t e a fr := rfl
theorem comb_while (S : Nat → Int) (kids num : Int) (text : ByteArray) (c b : Nat × Gen) (a fr : Nat) : comb (7, kids, num, text) S [c, b] a fr = whileG c b a fr := rfl
theorem comb_or (S : Nat → Int) (kids num : Int) (text : ByteArray) (c b : Nat × Gen) (a fr : Nat) : comb (30, kids, num, text) S [c, b] a fr = boolG 3 c b a fr := rfl
theorem comb_and (S : Nat → Int) (kids num : Int) (text : ByteArray) (c b : Nat × Gen) (a fr : Nat) : comb (31, kids, num, text) S [c, b] a fr = boolG 4 c b a fr := rfl
theorem comb_fork (S : Nat → Int) (kids num : Int) (text : ByteArray) (b : Nat × Gen) (a fr : Nat) : comb (53, kids, num, text) S [b] a fr = forkG b a fr := rfl
/-- As many instructions cost a step as twigs are counted. -/
theorem gen_count (S : Nat → Int) : ∀ (n : Nat) (r : Ro), r.flat.length ≤ n → ∀ may, okR may r → ¬ r.op = 2 → ∀ a fr, (gen S r a fr).countP costly = r.flat.countP counts
  | 0, r, hn, _, _, _, _, _ => by have := flat_pos r; omega
  | n + 1, .node (op, kids, num, text) ks, hn, may, hok, hop, a, fr => by
    obtain ⟨hg, hk, hoks⟩ := hok
    dsimp only [Tw.kids] at hk hoks
    dsimp only [Ro.op, Tw.op] at hop
    simp only [Ro.flat, List.length_cons] at hn
    have ih : ∀ k ∈ ks, ¬ k.op = 2 → ∀ a fr, (gen S k a fr).countP costly = k.flat.countP counts := by
      intro k hkm h2 a' fr'
      obtain ⟨may', hok'⟩ := okRs_mem hoks k hkm
      have h1 := flats_mem hkm
      exact gen_count S n k (by omega) may' hok' h2 a' fr'
    simp only [gen, Ro.flat, List.countP_cons]
    by_cases h1 : op = 1
    · subst h1
      have hkk := kids_of hg (show formT 1 = some (39, 1, 2048, 40) from rfl)
      obtain ⟨ps', b, rfl⟩ : ∃ ps' b, ks = ps' ++ [b] := by
        rcases List.eq_nil_or_concat ks with rfl | ⟨ps', b, rfl⟩
        · simp at hk; omega
        · exact ⟨ps', b, by simp⟩
      change okRs 40 kids 0 (ps' ++ [b]) at hoks
      obtain ⟨hp, hb⟩ := params_count ps' b 0 hoks (by rw [← hk]; simp)
      have hgl : ∀ l : List Ro, gk S (l ++ [b]) = gk S l ++ [(b.flat.length, gen S b)] := by
        intro l
        induction l with
        | nil => rfl
        | cons r l ih => simp only [List.cons_append, gk]; rw [ih]
      unfold comb
      rw [if_pos rfl, flowG, hgl]
      simp only [List.getLast?_append, List.getLast?_singleton, Option.some_or, List.countP_append]
      rw [ih b (by simp) (by omega), flats_app, List.countP_append, hp]
      simp only [flats, List.append_nil, Nat.zero_add]
      rfl
    have hkp : ∀ k ∈ ks, ∀ a fr, (gen S k a fr).countP costly = k.flat.countP counts := fun k hkm => ih k hkm (okRs_op (partOf40 hg h1) hoks k hkm).2
    by_cases h6 : op = 6
    · subst h6
      have hkk := kids_of hg (show formT 6 = some (42, 2, 3, 44) from rfl)
      by_cases h2 : ks.length = 2
      · obtain ⟨c, t, rfl⟩ := len2 h2
        simp only [gk, comb_if2, if2G, flats, List.countP_append, List.countP_cons, List.append_nil]
        simp [hkp c (by simp), hkp t (by simp), costly, counts, Tw.op] <;> omega
      · have h3 : ks.length = 3 := by omega
        obtain ⟨c, t, e, rfl⟩ := len3 h3
        simp only [gk, comb_if3, if3G, flats, List.countP_append, List.countP_cons, List.append_nil]
        simp [hkp c (by simp), hkp t (by simp), hkp e (by simp), costly, counts, Tw.op] <;> omega
    by_cases h7 : op = 7
    · subst h7
      have hkk := kids_of hg (show formT 7 = some (42, 2, 2, 44) from rfl)
      obtain ⟨c, b, rfl⟩ := len2 (ks := ks) (by omega)
      simp only [gk, comb_while, whileG, flats, List.countP_append, List.countP_cons, List.append_nil]
      simp [hkp c (by simp), hkp b (by simp), costly, counts, Tw.op] <;> omega
    by_cases h30 : op = 30
    · subst h30
      have hkk := kids_of hg (show formT 30 = some (42, 2, 2, 46) from rfl)
      obtain ⟨c, b, rfl⟩ := len2 (ks := ks) (by omega)
      simp only [gk, comb_or, boolG, flats, List.countP_append, List.countP_cons, List.append_nil]
      simp [hkp c (by simp), hkp b (by simp), costly, counts, Tw.op] <;> omega
    by_cases h31 : op = 31
    · subst h31
      have hkk := kids_of hg (show formT 31 = some (42, 2, 2, 46) from rfl)
      obtain ⟨c, b, rfl⟩ := len2 (ks := ks) (by omega)
      simp only [gk, comb_and, boolG, flats, List.countP_append, List.countP_cons, List.append_nil]
      simp [hkp c (by simp), hkp b (by simp), costly, counts, Tw.op] <;> omega
    by_cases h53 : op = 53
    · subst h53
      have hkk := kids_of hg (show formT 53 = some (42, 1, 1, 47) from rfl)
      obtain ⟨b, rfl⟩ := len1 (ks := ks) (by omega)
      simp only [gk, comb_fork, forkG, flats, List.countP_append, List.countP_cons, List.append_nil]
      simp [hkp b (by simp), costly, counts, Tw.op]
    · unfold comb
      rw [if_neg h1, if_neg h6, if_neg h7, if_neg (fun h => h.elim h30 h31), if_neg h53, List.countP_append, seqG_count ks _ _ hkp, plain_count hg h1 hop]
end Go.Proofs.Ytkpgnopimnamfaa
