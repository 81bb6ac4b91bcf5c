/- The code of a right tree is a right piece of code. -/
import Derived.Test.YtkpgnopimnamfaaWD
import Derived.Test.YtkpgnopimnamfaaP4
namespace Go.Proofs.Ytkpgnopimnamfaa
/-- An instruction, the depths ahead of it and behind it, and what is known of other places. -/
inductive OkX (At : Nat → Int → Prop) (d dn : Int) : Ins → Prop
  | plain (op A num : Int) (text : ByteArray) : validOp op → manyOf op = false → endsOf op = false → (aOf op == 116) = false → takesOf op ≤ d → dn = d - takesOf op + leaveOf op → OkX At d dn (op, A, num, text)
  | many (op A num : Int) (text : ByteArray) : op = 25 ∨ op = 50 ∨ op = 51 → 0 ≤ A → A ≤ d → dn = d - A + 1 → OkX At d dn (op, A, num, text)
  | ends (op A num : Int) (text : ByteArray) : op = 8 ∨ op = 9 ∨ op = 28 → d = takesOf op → OkX At d dn (op, A, num, text)
  | jump (AA : Nat) (num : Int) (text : ByteArray) : At AA d → OkX At d dn (1, AA, num, text)
  | branch (AA : Nat) (num : Int) (text : ByteArray) : 1 ≤ d → At AA (d - 1) → dn = d - 1 → OkX At d dn (2, AA, num, text)
  | orand (op : Int) (AA : Nat) (num : Int) (text : ByteArray) : op = 3 ∨ op = 4 → 1 ≤ d → At AA d → dn = d - 1 → OkX At d dn (op, AA, num, text)
  | fork (AA : Nat) (num : Int) (text : ByteArray) : At AA 0 → dn = d + 1 → OkX At d dn (53, AA, num, text)
theorem OkX.mono {At At' : Nat → Int → Prop} {d dn : Int} {x : Ins} (h : ∀ j v, At j v → At' j v) (k : OkX At d dn x) : OkX At' d dn x := by
  cases k with
  | plain op A num text h1 h2 h3 h4 h5 h6 => exact .plain op A num text h1 h2 h3 h4 h5 h6
  | many op A num text h1 h2 h3 h4 => exact .many op A num text h1 h2 h3 h4
  | ends op A num text h1 h2 => exact .ends op A num text h1 h2
  | jump AA num text h1 => exact .jump AA num text (h _ _ h1)
  | branch AA num text h1 h2 h3 => exact .branch AA num text h1 (h _ _ h2) h3
  | orand op AA num text h1 h2 h3 h4 => exact .orand op AA num text h1 h2 (h _ _ h3) h4
  | fork AA num text h1 h2 => exact .fork AA num text (h _ _ h1) h2
/-- Right in itself, but for a target. -/
def RI (x : Ins) : Prop := validOp x.1 ∧ (numOf x.1 = false → x.2.2.1 = 0) ∧ (¬ aOf x.1 = 116 → 0 ≤ x.2.1 ∧ x.2.1 < topOf x.1 0) ∧
  (if textOf x.1 = 120 then x.2.2.2.size < 4096 else if textOf x.1 = 110 then nameB x.2.2.2 = true else x.2.2.2 = noT)
/-- At a place of a piece stands one that is neither jump nor bool. -/
def CostAt (c : List Ins) (fr j : Nat) : Prop := ∃ k y, j = fr + k ∧ c[k]? = some y ∧ ¬ y.1 = 1 ∧ ¬ y.1 = 5
/-- A piece of code that begins at a place at a depth and ends at another depth; X: depths known of places, K: places known to be neither jump nor bool. -/
def Frag (X : Nat → Int → Prop) (K : Nat → Prop) (c : List Ins) (fr : Nat) (d d' : Int) : Prop :=
  ∃ E : Nat → Int, E fr = d ∧ E (fr + c.length) = d' ∧ (∀ j, fr ≤ j → j ≤ fr + c.length → 0 ≤ E j ∧ E j ≤ j) ∧
    ∀ (i : Nat) (x : Ins), c[i]? = some x → OkX (fun j v => X j v ∨ (fr ≤ j ∧ j ≤ fr + c.length ∧ E j = v)) (E (fr + i)) (E (fr + i + 1)) x ∧ RI x ∧
      (∀ AA : Nat, x.1 = 1 → x.2.1 = AA → fr + i < AA ∨ K AA ∨ CostAt c fr AA)
theorem Frag.bound {X : Nat → Int → Prop} {K : Nat → Prop} {c : List Ins} {fr : Nat} {d d' : Int} (h : Frag X K c fr d d') : 0 ≤ d' ∧ d' ≤ (fr + c.length : Nat) := by
  obtain ⟨E, h1, h2, h3, _⟩ := h
  have := h3 (fr + c.length) (by omega) (Nat.le_refl _)
  rwa [h2] at this
theorem Frag.append {X X' : Nat → Int → Prop} {K : Nat → Prop} {c1 c2 : List Ins} {fr : Nat} {d d1 d2 : Int} (h1 : Frag X' K c1 fr d d1) (h2 : Frag X' K c2 (fr + c1.length) d1 d2)
    (hX : ∀ j v, X' j v → X j v ∨ (j = fr ∧ v = d) ∨ (j = fr + c1.length ∧ v = d1) ∨ (j = fr + c1.length + c2.length ∧ v = d2)) : Frag X K (c1 ++ c2) fr d d2 := by
  obtain ⟨E1, a1, b1, r1, o1⟩ := h1
  obtain ⟨E2, a2, b2, r2, o2⟩ := h2
  obtain ⟨E, hE⟩ : ∃ E : Nat → Int, ∀ j, E j = if j < fr + c1.length then E1 j else E2 j := ⟨_, fun _ => rfl⟩
  have eR : ∀ j, fr + c1.length ≤ j → E j = E2 j := fun j hj => by rw [hE, if_neg (by omega)]
  have eL : ∀ j, j ≤ fr + c1.length → E j = E1 j := fun j hj => by
    by_cases h : j < fr + c1.length
    · rw [hE, if_pos h]
    · obtain rfl : j = fr + c1.length := by omega
      rw [eR _ (Nat.le_refl _), a2, b1]
  have hlen : (c1 ++ c2).length = c1.length + c2.length := List.length_append
  have hAt : ∀ j v, X' j v → X j v ∨ (fr ≤ j ∧ j ≤ fr + (c1 ++ c2).length ∧ E j = v) := fun j v h => by
    rcases hX j v h with h | ⟨rfl, rfl⟩ | ⟨rfl, rfl⟩ | ⟨rfl, rfl⟩
    · exact .inl h
    · exact .inr ⟨Nat.le_refl _, by omega, by rw [eL _ (by omega), a1]⟩
    · exact .inr ⟨by omega, by omega, by rw [eL _ (Nat.le_refl _), b1]⟩
    · exact .inr ⟨by omega, by omega, by rw [eR _ (by omega), b2]⟩
  refine ⟨E, by rw [eL _ (by omega), a1], ?_, ?_, ?_⟩
  · rw [hlen, ← Nat.add_assoc, eR _ (by omega), b2]
  · intro j hj1 hj2
    by_cases h : j ≤ fr + c1.length
    · rw [eL _ h]; exact r1 j hj1 h
    · rw [eR _ (by omega)]; exact r2 j (by omega) (by omega)
  · intro i x hx
    by_cases hi : i < c1.length
    · rw [List.getElem?_append_left hi] at hx
      obtain ⟨ok, ri, ci⟩ := o1 i x hx
      rw [eL (fr + i) (by omega), eL (fr + i + 1) (by omega)]
      refine ⟨ok.mono ?_, ri, fun AA g1 g2 => ?_⟩
      · rintro j v (h | ⟨g1, g2, g3⟩)
        · exact hAt j v h
        · exact .inr ⟨g1, by omega, by rw [eL _ g2, g3]⟩
      · rcases ci AA g1 g2 with h | h | ⟨k, y, g3, g4, g5⟩
        · exact .inl h
        · exact .inr (.inl h)
        · exact .inr (.inr ⟨k, y, g3, by rw [List.getElem?_append_left (List.getElem?_eq_some_iff.1 g4).1]; exact g4, g5⟩)
    · obtain ⟨m, rfl⟩ : ∃ m, i = c1.length + m := ⟨i - c1.length, by omega⟩
      rw [List.getElem?_append_right (by omega), Nat.add_sub_cancel_left] at hx
      obtain ⟨ok, ri, ci⟩ := o2 m x hx
      rw [← Nat.add_assoc, eR (fr + c1.length + m) (by omega), eR (fr + c1.length + m + 1) (by omega)]
      refine ⟨ok.mono ?_, ri, fun AA g1 g2 => ?_⟩
      · rintro j v (h | ⟨g1, g2, g3⟩)
        · exact hAt j v h
        · exact .inr ⟨by omega, by omega, by rw [eR _ g1, g3]⟩
      · rcases ci AA g1 g2 with h | h | ⟨k, y, g3, g4, g5⟩
        · exact .inl h
        · exact .inr (.inl h)
        · exact .inr (.inr ⟨c1.length + k, y, by omega, by rw [List.getElem?_append_right (by omega), Nat.add_sub_cancel_left]; exact g4, g5⟩)
theorem Frag.app {X : Nat → Int → Prop} {K : Nat → Prop} {c1 c2 : List Ins} {fr : Nat} {d d1 d2 : Int} (h1 : Frag X K c1 fr d d1) (h2 : Frag X K c2 (fr + c1.length) d1 d2) : Frag X K (c1 ++ c2) fr d d2 := h1.append h2 fun _ _ h => .inl h
theorem Frag.mono {X X' : Nat → Int → Prop} {K K' : Nat → Prop} {c : List Ins} {fr : Nat} {d d' : Int} (h : Frag X K c fr d d') (hX : ∀ j v, X j v → X' j v) (hK : ∀ j, K j → K' j) : Frag X' K' c fr d d' := by
  obtain ⟨E, a, b, r, o⟩ := h
  refine ⟨E, a, b, r, fun i x hx => ?_⟩
  obtain ⟨ok, ri, ci⟩ := o i x hx
  exact ⟨ok.mono fun j v h => h.imp (hX j v) id, ri, fun AA g1 g2 => (ci AA g1 g2).imp id (Or.imp (hK AA) id)⟩
theorem Frag.closeK {X : Nat → Int → Prop} {K K' : Nat → Prop} {c : List Ins} {fr : Nat} {d d' : Int} (h : Frag X K' c fr d d') (hK : ∀ j, K' j → K j ∨ CostAt c fr j) : Frag X K c fr d d' := by
  obtain ⟨E, a, b, r, o⟩ := h
  refine ⟨E, a, b, r, fun i x hx => ?_⟩
  obtain ⟨ok, ri, ci⟩ := o i x hx
  refine ⟨ok, ri, fun AA g1 g2 => ?_⟩
  rcases ci AA g1 g2 with h | h | h
  · exact .inl h
  · exact .inr (hK AA h)
  · exact .inr (.inr h)
theorem Frag.nil (X : Nat → Int → Prop) (K : Nat → Prop) (fr : Nat) (d : Int) (h0 : 0 ≤ d) (h1 : d ≤ fr) : Frag X K [] fr d d :=
  ⟨fun _ => d, rfl, rfl, fun j hj _ => ⟨h0, by show d ≤ _; omega⟩, fun i x hx => by simp at hx⟩
theorem Frag.one {X : Nat → Int → Prop} {K : Nat → Prop} {fr : Nat} {d d' : Int} (x : Ins) (ok : OkX X d d' x) (ri : RI x) (h0 : 0 ≤ d) (h1 : d ≤ fr) (h2 : 0 ≤ d') (h3 : d' ≤ fr + 1) (hj : ∀ AA : Nat, x.1 = 1 → x.2.1 = AA → fr < AA ∨ K AA) : Frag X K [x] fr d d' := by
  refine ⟨fun j => if j = fr then d else d', by simp, by simp, ?_, ?_⟩
  · intro j g1 g2
    simp only [List.length_singleton] at g2
    by_cases h : j = fr
    · subst h; simp; omega
    · simp only [if_neg h]; omega
  · intro i y hy
    obtain rfl : i = 0 := by
      have := (List.getElem?_eq_some_iff.1 hy).1
      simpa using this
    obtain rfl : x = y := by simpa using hy
    refine ⟨?_, ri, fun AA g1 g2 => (hj AA g1 g2).imp id Or.inl⟩
    simp only [Nat.add_zero, if_pos, if_neg (show ¬ fr + 1 = fr from by omega)]
    exact ok.mono fun j v h => .inl h
end Go.Proofs.Ytkpgnopimnamfaa
namespace Go.Proofs.Ytkpgnopimnamfaa
abbrev noX : Nat → Int → Prop := fun _ _ => False
abbrev noK : Nat → Prop := fun _ => False
def Hd (c : List Ins) : Prop := ∃ y, c[0]? = some y ∧ ¬ y.1 = 1 ∧ ¬ y.1 = 5
theorem Hd.left {c c' : List Ins} (h : Hd c) : Hd (c ++ c') := by
  obtain ⟨y, h1, h2⟩ := h
  exact ⟨y, by rw [List.getElem?_append_left (List.getElem?_eq_some_iff.1 h1).1]; exact h1, h2⟩
theorem Frag.any {c : List Ins} {fr : Nat} {d d' : Int} (h : Frag noX noK c fr d d') (X : Nat → Int → Prop) (K : Nat → Prop) : Frag X K c fr d d' := h.mono (fun _ _ h => h.elim) (fun _ h => h.elim)
theorem ri_t (op A : Int) (h : op = 1 ∨ op = 2 ∨ op = 3 ∨ op = 4 ∨ op = 53) : RI (op, A, 0, noT) := by
  refine ⟨by unfold validOp; omega, fun _ => rfl, fun h1 => absurd (by unfold aOf; exact if_pos h) h1, ?_⟩
  have : textOf op = 0 := by unfold textOf; rw [if_neg (by omega), if_neg (by omega)]
  simp [this]
theorem ri_0 (op : Int) (hv : validOp op) (ha : aOf op = 0) (ht : textOf op = 0) : RI (op, 0, 0, noT) := by
  refine ⟨hv, fun _ => rfl, fun _ => ⟨Int.le_refl _, ?_⟩, ?_⟩
  · unfold topOf; simp only [ha]; decide
  · simp [ht]
theorem end_frag {X : Nat → Int → Prop} {K : Nat → Prop} (fr : Nat) (d' : Int) (h0 : 0 ≤ d') (h1 : d' ≤ fr + 1) : Frag X K [(28, 0, 0, noT)] fr 0 d' :=
  .one _ (.ends 28 0 0 noT (by omega) (by decide)) (ri_0 28 (by unfold validOp; omega) (by decide) (by decide)) (Int.le_refl _) (by omega) h0 h1 (fun AA h => absurd h (by show ¬ (28 : Int) = 1; decide))
theorem while_frag {c1 b1 : List Ins} {fr : Nat} (hc : Frag noX noK c1 fr 0 1) (hd : Hd c1) (hb : Frag noX noK b1 (fr + c1.length + 1) 0 0) :
    Frag noX noK (c1 ++ (2, ((fr + c1.length + 1 + b1.length + 1 : Nat) : Int), 0, noT) :: (b1 ++ [(1, (fr : Int), 0, noT)])) fr 0 0 := by
  have hcb := hc.bound
  have br : Frag (fun j v => (j = fr ∧ v = 0) ∨ (j = fr + c1.length + 1 + b1.length + 1 ∧ v = 0)) (fun j => j = fr) [((2 : Int), ((fr + c1.length + 1 + b1.length + 1 : Nat) : Int), (0 : Int), noT)] (fr + c1.length) 1 0 :=
    .one _ (.branch _ 0 noT (by omega) (.inr ⟨rfl, rfl⟩) rfl) (ri_t 2 _ (by omega)) (by omega) (by omega) (by omega) (by omega) (fun AA h => absurd h (by show ¬ (2 : Int) = 1; decide))
  have jm : Frag (fun j v => (j = fr ∧ v = 0) ∨ (j = fr + c1.length + 1 + b1.length + 1 ∧ v = 0)) (fun j => j = fr) [((1 : Int), (fr : Int), (0 : Int), noT)] (fr + c1.length + 1 + b1.length) 0 0 :=
    .one _ (.jump _ 0 noT (.inl ⟨rfl, rfl⟩)) (ri_t 1 _ (by omega)) (by omega) (by omega) (by omega) (by omega) (fun AA _ h => .inr (by have h : (fr : Int) = AA := h; omega))
  have h1 := br.app (((hb.any _ _).app jm))
  have h2 := Frag.append (X := noX) (hc.any _ _) h1 (fun j v h => by
    rcases h with ⟨rfl, rfl⟩ | ⟨rfl, rfl⟩
    · exact .inr (.inl ⟨rfl, rfl⟩)
    · exact .inr (.inr (.inr ⟨by simp; omega, rfl⟩)))
  refine h2.closeK fun j h => .inr ?_
  subst h
  obtain ⟨y, g1, g2⟩ := hd
  exact ⟨0, y, rfl, by rw [List.getElem?_append_left (List.getElem?_eq_some_iff.1 g1).1]; exact g1, g2⟩
theorem if2_frag {c1 t1 : List Ins} {fr : Nat} (hc : Frag noX noK c1 fr 0 1) (ht : Frag noX noK t1 (fr + c1.length + 1) 0 0) :
    Frag noX noK (c1 ++ (2, ((fr + c1.length + 1 + t1.length : Nat) : Int), 0, noT) :: t1) fr 0 0 := by
  have hcb := hc.bound
  have br : Frag (fun j v => j = fr + c1.length + 1 + t1.length ∧ v = 0) noK [((2 : Int), ((fr + c1.length + 1 + t1.length : Nat) : Int), (0 : Int), noT)] (fr + c1.length) 1 0 :=
    .one _ (.branch _ 0 noT (by omega) ⟨rfl, rfl⟩ rfl) (ri_t 2 _ (by omega)) (by omega) (by omega) (by omega) (by omega) (fun AA h => absurd h (by show ¬ (2 : Int) = 1; decide))
  have h1 := br.app (ht.any _ _)
  exact Frag.append (X := noX) (hc.any _ _) h1 (fun j v h => by
    obtain ⟨rfl, rfl⟩ := h
    exact .inr (.inr (.inr ⟨by simp; omega, rfl⟩)))
theorem if3_frag {c1 t1 e1 : List Ins} {fr : Nat} (hc : Frag noX noK c1 fr 0 1) (ht : Frag noX noK t1 (fr + c1.length + 1) 0 0) (he : Frag noX noK e1 (fr + c1.length + 1 + t1.length + 1) 0 0) :
    Frag noX noK (c1 ++ (2, ((fr + c1.length + 1 + t1.length + 1 : Nat) : Int), 0, noT) :: (t1 ++ (1, ((fr + c1.length + 1 + t1.length + 1 + e1.length : Nat) : Int), 0, noT) :: e1)) fr 0 0 := by
  have hcb := hc.bound
  obtain ⟨X, hX⟩ : ∃ X : Nat → Int → Prop, X = fun j v => (j = fr + c1.length + 1 + t1.length + 1 ∧ v = 0) ∨ (j = fr + c1.length + 1 + t1.length + 1 + e1.length ∧ v = 0) := ⟨_, rfl⟩
  have br : Frag X noK [((2 : Int), ((fr + c1.length + 1 + t1.length + 1 : Nat) : Int), (0 : Int), noT)] (fr + c1.length) 1 0 :=
    .one _ (.branch _ 0 noT (by omega) (by rw [hX]; exact .inl ⟨rfl, rfl⟩) rfl) (ri_t 2 _ (by omega)) (by omega) (by omega) (by omega) (by omega) (fun AA h => absurd h (by show ¬ (2 : Int) = 1; decide))
  have jm : Frag X noK [((1 : Int), ((fr + c1.length + 1 + t1.length + 1 + e1.length : Nat) : Int), (0 : Int), noT)] (fr + c1.length + 1 + t1.length) 0 0 :=
    .one _ (.jump _ 0 noT (by rw [hX]; exact .inr ⟨rfl, rfl⟩)) (ri_t 1 _ (by omega)) (by omega) (by omega) (by omega) (by omega) (fun AA _ h => .inl (by have h : ((fr + c1.length + 1 + t1.length + 1 + e1.length : Nat) : Int) = AA := h; omega))
  have h1 := (hc.any X noK).app (br.app ((ht.any X noK).app jm))
  have hl : (c1 ++ ([((2 : Int), ((fr + c1.length + 1 + t1.length + 1 : Nat) : Int), (0 : Int), noT)] ++ (t1 ++ [((1 : Int), ((fr + c1.length + 1 + t1.length + 1 + e1.length : Nat) : Int), (0 : Int), noT)]))).length = c1.length + 1 + t1.length + 1 := by simp; omega
  have he2 : Frag X noK e1 (fr + (c1 ++ ([((2 : Int), ((fr + c1.length + 1 + t1.length + 1 : Nat) : Int), (0 : Int), noT)] ++ (t1 ++ [((1 : Int), ((fr + c1.length + 1 + t1.length + 1 + e1.length : Nat) : Int), (0 : Int), noT)]))).length) 0 0 := by
    rw [hl, ← Nat.add_assoc, ← Nat.add_assoc, ← Nat.add_assoc]; exact he.any _ _
  have h2 := Frag.append (X := noX) h1 he2 (fun j v h => by
    rw [hX] at h
    rcases h with ⟨rfl, rfl⟩ | ⟨rfl, rfl⟩
    · exact .inr (.inr (.inl ⟨by rw [hl]; omega, rfl⟩))
    · exact .inr (.inr (.inr ⟨by rw [hl]; omega, rfl⟩)))
  simpa using h2
theorem bool_frag {c1 b1 : List Ins} {fr : Nat} {d : Int} (op : Int) (hop : op = 3 ∨ op = 4) (hd0 : 0 ≤ d) (hc : Frag noX noK c1 fr d (d + 1)) (hb : Frag noX noK b1 (fr + c1.length + 1) d (d + 1)) :
    Frag noX noK (c1 ++ (op, ((fr + c1.length + 1 + b1.length + 1 : Nat) : Int), 0, noT) :: (b1 ++ [(5, 0, 0, noT)])) fr d (d + 1) := by
  have hcb := hc.bound
  have hbb := hb.bound
  have br : Frag (fun j v => j = fr + c1.length + 1 + b1.length + 1 ∧ v = d + 1) noK [(op, ((fr + c1.length + 1 + b1.length + 1 : Nat) : Int), (0 : Int), noT)] (fr + c1.length) (d + 1) d :=
    .one _ (.orand op _ 0 noT hop (by omega) ⟨rfl, rfl⟩ (by omega)) (ri_t op _ (by omega)) (by omega) (by omega) (by omega) (by omega) (fun AA h => absurd h (by show ¬ op = 1; omega))
  have bo : Frag (fun j v => j = fr + c1.length + 1 + b1.length + 1 ∧ v = d + 1) noK [((5 : Int), (0 : Int), (0 : Int), noT)] (fr + c1.length + 1 + b1.length) (d + 1) (d + 1) :=
    .one _ (.plain 5 0 0 noT (by unfold validOp; omega) (by decide) (by decide) (by decide) (by rw [show takesOf 5 = 1 from by decide]; omega) (by rw [show takesOf 5 = 1 from by decide, show leaveOf 5 = 1 from by decide]; omega)) (ri_0 5 (by unfold validOp; omega) (by decide) (by decide)) (by omega) (by omega) (by omega) (by omega) (fun AA h => absurd h (by show ¬ (5 : Int) = 1; decide))
  have h1 := br.app (((hb.any _ _).app bo))
  exact Frag.append (X := noX) (hc.any _ _) h1 (fun j v h => by
    obtain ⟨rfl, rfl⟩ := h
    exact .inr (.inr (.inr ⟨by simp; omega, rfl⟩)))
theorem fork_frag {b1 : List Ins} {fr : Nat} {d : Int} (hd0 : 0 ≤ d) (hd1 : d ≤ fr) (hb : Frag noX noK b1 (fr + 2) 0 0) :
    Frag noX noK ((53, ((fr + 2 : Nat) : Int), 0, noT) :: (1, ((fr + 2 + b1.length + 1 : Nat) : Int), 0, noT) :: (b1 ++ [(28, 0, 0, noT)])) fr d (d + 1) := by
  obtain ⟨X, hX⟩ : ∃ X : Nat → Int → Prop, X = fun j v => (j = fr + 2 ∧ v = 0) ∨ (j = fr + 2 + b1.length + 1 ∧ v = d + 1) := ⟨_, rfl⟩
  have fk : Frag X noK [((53 : Int), ((fr + 2 : Nat) : Int), (0 : Int), noT)] fr d (d + 1) :=
    .one _ (.fork _ 0 noT (by rw [hX]; exact .inl ⟨rfl, rfl⟩) rfl) (ri_t 53 _ (by omega)) (by omega) (by omega) (by omega) (by omega) (fun AA h => absurd h (by show ¬ (53 : Int) = 1; decide))
  have jm : Frag X noK [((1 : Int), ((fr + 2 + b1.length + 1 : Nat) : Int), (0 : Int), noT)] (fr + 1) (d + 1) 0 :=
    .one _ (.jump _ 0 noT (by rw [hX]; exact .inr ⟨rfl, rfl⟩)) (ri_t 1 _ (by omega)) (by omega) (by omega) (by omega) (by omega) (fun AA _ h => .inl (by have h : ((fr + 2 + b1.length + 1 : Nat) : Int) = AA := h; omega))
  have h1 := fk.app jm
  have h2 := (hb.any X noK).app (end_frag (X := X) (K := noK) (fr + 2 + b1.length) (d + 1) (by omega) (by omega))
  exact Frag.append (X := noX) h1 h2 (fun j v h => by
    rw [hX] at h
    rcases h with ⟨rfl, rfl⟩ | ⟨rfl, rfl⟩
    · exact .inr (.inr (.inl ⟨by simp, rfl⟩))
    · exact .inr (.inr (.inr ⟨by simp; omega, rfl⟩)))
end Go.Proofs.Ytkpgnopimnamfaa
namespace Go.Proofs.Ytkpgnopimnamfaa
/-- Where a twig has a slot, it is one. -/
def SOK (S : Nat → Int) (l : List Tw) (a : Nat) : Prop := ∀ (k : Nat) (x : Tw), l[k]? = some x → x.op = 4 ∨ x.op = 5 ∨ x.op = 26 → 0 ≤ S (a + k) ∧ S (a + k) < 100
theorem SOK.head {S : Nat → Int} {x : Tw} {l : List Tw} {a : Nat} (h : SOK S (x :: l) a) : x.op = 4 ∨ x.op = 5 ∨ x.op = 26 → 0 ≤ S a ∧ S a < 100 := h 0 x rfl
theorem SOK.tail {S : Nat → Int} {x : Tw} {l : List Tw} {a : Nat} (h : SOK S (x :: l) a) : SOK S l (a + 1) := fun k y hy ho => by
  have := h (k + 1) y (by simpa using hy) ho
  rwa [show a + (k + 1) = a + 1 + k from by omega] at this
theorem SOK.left {S : Nat → Int} {l m : List Tw} {a : Nat} (h : SOK S (l ++ m) a) : SOK S l a := fun k x hx ho => h k x (by rw [List.getElem?_append_left (List.getElem?_eq_some_iff.1 hx).1]; exact hx) ho
theorem SOK.right {S : Nat → Int} {l m : List Tw} {a : Nat} (h : SOK S (l ++ m) a) : SOK S m (a + l.length) := fun k x hx ho => by
  have := h (l.length + k) x (by rw [List.getElem?_append_right (by omega), Nat.add_sub_cancel_left]; exact hx) ho
  rwa [← Nat.add_assoc] at this
/-- What holds of an expression's code; of a statement's, of a block's. -/
def ExprOk (S : Nat → Int) (k : Ro) : Prop := ∀ a, SOK S k.flat a → ∀ (fr : Nat) (d : Int), 0 ≤ d → d ≤ fr → Frag noX noK (gen S k a fr) fr d (d + 1) ∧ Hd (gen S k a fr)
def StmtOk (S : Nat → Int) (k : Ro) : Prop := ∀ a, SOK S k.flat a → ∀ fr : Nat, Frag noX noK (gen S k a fr) fr 0 0
theorem seq_expr {S : Nat → Int} : ∀ (ks : List Ro) (a fr : Nat) (d : Int), (∀ k ∈ ks, ExprOk S k) → SOK S (flats ks) a → 0 ≤ d → d ≤ fr → Frag noX noK (seqG (gk S ks) a fr) fr d (d + ks.length) ∧ (ks ≠ [] → Hd (seqG (gk S ks) a fr))
  | [], a, fr, d, _, _, h0, h1 => ⟨by simpa [gk, seqG] using Frag.nil noX noK fr d h0 h1, fun h => absurd rfl h⟩
  | k :: ks, a, fr, d, hk, hs, h0, h1 => by
    simp only [flats] at hs
    obtain ⟨f1, g1⟩ := hk k (by simp) a hs.left fr d h0 h1
    have hb := f1.bound
    obtain ⟨f2, _⟩ := seq_expr ks (a + k.flat.length) (fr + (gen S k a fr).length) (d + 1) (fun k' hk' => hk k' (by simp [hk'])) hs.right (by omega) (by omega)
    simp only [gk, seqG]
    refine ⟨?_, fun _ => g1.left⟩
    have h3 := f1.app f2
    rw [show d + ((k :: ks).length : Nat) = d + 1 + (ks.length : Nat) from by simp only [List.length_cons]; omega]
    exact h3
theorem seq_stmt {S : Nat → Int} : ∀ (ks : List Ro) (a fr : Nat), (∀ k ∈ ks, StmtOk S k) → SOK S (flats ks) a → Frag noX noK (seqG (gk S ks) a fr) fr 0 0
  | [], a, fr, _, _ => by simpa [gk, seqG] using Frag.nil noX noK fr 0 (Int.le_refl _) (by omega)
  | k :: ks, a, fr, hk, hs => by
    simp only [flats] at hs
    have f1 := hk k (by simp) a hs.left fr
    have f2 := seq_stmt ks (a + k.flat.length) (fr + (gen S k a fr).length) (fun k' hk' => hk k' (by simp [hk'])) hs.right
    simp only [gk, seqG]
    exact f1.app f2
theorem good_more {op kids num : Int} {text : ByteArray} {q : Bool} (h : good (op, kids, num, text) q = true) : (¬ op = 23 → num = 0) ∧ ((op = 50 ∨ op = 51 ∨ op = 56) → nameB text = true) ∧ (op = 24 → text.size < 4096) := by
  obtain ⟨_, t, l, m, p, hf, _⟩ := good_form h
  unfold good at h
  dsimp only [Tw.op, Tw.kids, Tw.num, Tw.text] at h
  rw [hf] at h
  simp only [Bool.and_eq_true, Bool.or_eq_true, decide_eq_true_eq, beq_iff_eq] at h
  obtain ⟨⟨⟨⟨⟨_, ht⟩, _⟩, _⟩, hn⟩, _⟩ := h
  refine ⟨fun h23 => hn.resolve_left h23, fun ho => ?_, fun ho => ?_⟩
  · have : t = 39 := by
      rcases ho with rfl | rfl | rfl
      all_goals
        have hf2 := hf
        unfold formT at hf2
        simp at hf2
        omega
    subst this
    unfold textB at ht
    rw [if_pos rfl] at ht
    unfold ownB at ht
    simp only [Bool.and_eq_true] at ht
    exact ht.1
  · subst ho
    have : t = 45 := by
      have hf2 := hf
      unfold formT at hf2
      simp at hf2
      omega
    subst this
    unfold textB at ht
    rw [if_neg (by decide), if_neg (by decide)] at ht
    unfold shortB at ht
    simp only [decide_eq_true_eq] at ht
    omega
theorem ri_slot (op s : Int) (h : op = 26 ∨ op = 27) (h0 : 0 ≤ s) (h1 : s < 100) : RI (op, s, 0, noT) := by
  have ea : aOf op = 115 := by unfold aOf; rw [if_neg (by omega), if_pos h]
  have et : textOf op = 0 := by unfold textOf; rw [if_neg (by omega), if_neg (by omega)]
  refine ⟨by unfold validOp; omega, fun _ => rfl, fun _ => ⟨h0, ?_⟩, by simp [et]⟩
  unfold topOf; simp only [ea]; simpa using h1
theorem ri_many (op kids : Int) (text : ByteArray) (h : op = 25 ∧ text = noT ∨ (op = 50 ∨ op = 51) ∧ nameB text = true) (h0 : 0 ≤ kids) (h1 : kids ≤ 2048) : RI (op, kids, 0, text) := by
  have ho : op = 25 ∨ op = 50 ∨ op = 51 := by omega
  have ea : aOf op = 99 := by unfold aOf; rw [if_neg (by omega), if_neg (by omega), if_pos ho]
  refine ⟨by unfold validOp; omega, fun _ => rfl, fun _ => ⟨h0, ?_⟩, ?_⟩
  · unfold topOf; simp only [ea]
    show kids < _
    simp; omega
  · rcases h with ⟨rfl, rfl⟩ | ⟨h, ht⟩
    · simp [show textOf 25 = 0 from by decide]
    · have et : textOf op = 110 := by unfold textOf; rw [if_neg (by omega), if_pos (by omega)]
      simp [et, ht]
end Go.Proofs.Ytkpgnopimnamfaa
namespace Go.Proofs.Ytkpgnopimnamfaa
theorem plain_facts {op : Int} (h : op = 20 ∨ op = 21 ∨ op = 22 ∨ op = 57 ∨ 32 ≤ op ∧ op ≤ 48 ∨ op = 52 ∨ op = 54 ∨ op = 55) :
    validOp op ∧ manyOf op = false ∧ endsOf op = false ∧ aOf op = 0 ∧ textOf op = 0 ∧ leaveOf op = 1 := by
  refine ⟨by unfold validOp; omega, by unfold manyOf; simp; omega, by unfold endsOf; simp; omega, ?_, ?_, ?_⟩
  · unfold aOf; rw [if_neg (by omega), if_neg (by omega), if_neg (by omega)]
  · unfold textOf; rw [if_neg (by omega), if_neg (by omega)]
  · unfold leaveOf; rw [if_neg (by omega)]
theorem plain_kids {op kids num : Int} {text : ByteArray} {q : Bool} (hg : good (op, kids, num, text) q = true) (h : op = 20 ∨ op = 21 ∨ op = 22 ∨ op = 57 ∨ 32 ≤ op ∧ op ≤ 48 ∨ op = 52 ∨ op = 54 ∨ op = 55) : takesOf op = kids := by
  by_cases h0 : op = 20 ∨ op = 21 ∨ op = 22 ∨ op = 57
  · have hf : formT op = some (42, 0, 0, 41) := by
      unfold formT
      rw [if_neg (by omega), if_neg (by omega), if_neg (by omega), if_neg (by omega), if_neg (by omega), if_neg (by omega), if_neg (by omega), if_neg (by omega), if_pos (by omega)]
    have := kids_of hg hf
    unfold takesOf
    rw [if_neg (by omega), if_neg (by omega)]
    omega
  by_cases h1 : op ≤ 42
  · have hf : formT op = some (42, 2, 2, 46) := by
      unfold formT
      rw [if_neg (by omega), if_neg (by omega), if_neg (by omega), if_neg (by omega), if_neg (by omega), if_neg (by omega), if_neg (by omega), if_neg (by omega), if_neg (by omega), if_neg (by omega), if_neg (by omega), if_pos (by omega)]
    have := kids_of hg hf
    unfold takesOf
    rw [if_neg (by omega), if_pos (by omega)]
    omega
  · have hf : formT op = some (42, 1, 1, 46) := by
      unfold formT
      rw [if_neg (by omega), if_neg (by omega), if_neg (by omega), if_neg (by omega), if_neg (by omega), if_neg (by omega), if_neg (by omega), if_neg (by omega), if_neg (by omega), if_neg (by omega), if_pos (by omega)]
    have := kids_of hg hf
    unfold takesOf
    rw [if_pos (by omega)]
    omega
theorem hd_one (x : Ins) (h1 : ¬ x.1 = 1) (h5 : ¬ x.1 = 5) : Hd [x] := ⟨x, rfl, h1, h5⟩
theorem plain_expr {op kids num : Int} {text : ByteArray} {q : Bool} (hg : good (op, kids, num, text) q = true) (he : exprB op = true) (hno : ¬ op = 30 ∧ ¬ op = 31 ∧ ¬ op = 53) (s : Int) (hs : op = 26 → 0 ≤ s ∧ s < 100) (fr : Nat) (d : Int) (h0 : 0 ≤ d) (hk0 : 0 ≤ kids) (h1 : d + kids ≤ fr) :
    Frag noX noK (plainIns (op, kids, num, text) s) fr (d + kids) (d + 1) ∧ Hd (plainIns (op, kids, num, text) s) := by
  obtain ⟨m1, m2, m3⟩ := good_more hg
  unfold exprB at he
  simp only [decide_eq_true_eq] at he
  by_cases c1 : op = 26
  · subst c1
    have hk := kids_of hg (show formT 26 = some (39, 0, 0, 41) from rfl)
    obtain ⟨s0, s1⟩ := hs rfl
    have e : plainIns (26, kids, num, text) s = [(26, s, 0, noT)] := rfl
    rw [e]
    exact ⟨.one _ (.plain 26 s 0 noT (by unfold validOp; omega) (by decide) (by decide) (by decide) (by rw [show takesOf 26 = 0 from by decide]; omega) (by rw [show takesOf 26 = 0 from by decide, show leaveOf 26 = 1 from by decide]; omega)) (ri_slot 26 s (by omega) s0 s1) (by omega) (by omega) (by omega) (by omega) (fun AA h => absurd h (by show ¬ (26 : Int) = 1; decide)), hd_one _ (by show ¬ (26 : Int) = 1; decide) (by show ¬ (26 : Int) = 5; decide)⟩
  by_cases c2 : op = 23
  · subst c2
    have hk := kids_of hg (show formT 23 = some (42, 0, 0, 41) from rfl)
    have e : plainIns (23, kids, num, text) s = [(23, 0, num, noT)] := rfl
    rw [e]
    exact ⟨.one _ (.plain 23 0 num noT (by unfold validOp; omega) (by decide) (by decide) (by decide) (by rw [show takesOf 23 = 0 from by decide]; omega) (by rw [show takesOf 23 = 0 from by decide, show leaveOf 23 = 1 from by decide]; omega)) ⟨by unfold validOp; show 1 ≤ (23 : Int) ∧ _ ∨ _; omega, fun h => absurd h (by show ¬ numOf 23 = false; decide), fun _ => ⟨Int.le_refl _, by show (0 : Int) < topOf 23 0; decide⟩, by simp [show textOf 23 = 0 from by decide]⟩ (by omega) (by omega) (by omega) (by omega) (fun AA h => absurd h (by show ¬ (23 : Int) = 1; decide)), hd_one _ (by show ¬ (23 : Int) = 1; decide) (by show ¬ (23 : Int) = 5; decide)⟩
  have hn := m1 c2
  subst hn
  by_cases c3 : op = 24
  · subst c3
    have hk := kids_of hg (show formT 24 = some (45, 0, 0, 41) from rfl)
    have e : plainIns (24, kids, 0, text) s = [(24, 0, 0, text)] := rfl
    rw [e]
    exact ⟨.one _ (.plain 24 0 0 text (by unfold validOp; omega) (by decide) (by decide) (by decide) (by rw [show takesOf 24 = 0 from by decide]; omega) (by rw [show takesOf 24 = 0 from by decide, show leaveOf 24 = 1 from by decide]; omega)) ⟨by unfold validOp; show 1 ≤ (24 : Int) ∧ _ ∨ _; omega, fun _ => rfl, fun _ => ⟨Int.le_refl _, by show (0 : Int) < topOf 24 0; decide⟩, by simp [show textOf 24 = 120 from by decide, m3 rfl]⟩ (by omega) (by omega) (by omega) (by omega) (fun AA h => absurd h (by show ¬ (24 : Int) = 1; decide)), hd_one _ (by show ¬ (24 : Int) = 1; decide) (by show ¬ (24 : Int) = 5; decide)⟩
  by_cases c4 : op = 56
  · subst c4
    have hk := kids_of hg (show formT 56 = some (39, 0, 0, 41) from rfl)
    have e : plainIns (56, kids, 0, text) s = [(56, 0, 0, text)] := rfl
    rw [e]
    exact ⟨.one _ (.plain 56 0 0 text (by unfold validOp; omega) (by decide) (by decide) (by decide) (by rw [show takesOf 56 = 0 from by decide]; omega) (by rw [show takesOf 56 = 0 from by decide, show leaveOf 56 = 1 from by decide]; omega)) ⟨by unfold validOp; show 1 ≤ (56 : Int) ∧ _ ∨ _; omega, fun _ => rfl, fun _ => ⟨Int.le_refl _, by show (0 : Int) < topOf 56 0; decide⟩, by simp [show textOf 56 = 110 from by decide, m2 (by omega)]⟩ (by omega) (by omega) (by omega) (by omega) (fun AA h => absurd h (by show ¬ (56 : Int) = 1; decide)), hd_one _ (by show ¬ (56 : Int) = 1; decide) (by show ¬ (56 : Int) = 5; decide)⟩
  by_cases c5 : op = 25
  · subst c5
    have hk := kids_of hg (show formT 25 = some (42, 0, 2048, 46) from rfl)
    have e : plainIns (25, kids, 0, text) s = [(25, kids, 0, noT)] := rfl
    rw [e]
    exact ⟨.one _ (.many 25 kids 0 noT (by omega) hk0 (by omega) (by omega)) (ri_many 25 kids noT (.inl ⟨rfl, rfl⟩) hk0 hk.2) (by omega) (by omega) (by omega) (by omega) (fun AA h => absurd h (by show ¬ (25 : Int) = 1; decide)), hd_one _ (by show ¬ (25 : Int) = 1; decide) (by show ¬ (25 : Int) = 5; decide)⟩
  by_cases c6 : op = 50 ∨ op = 51
  · have hf : formT op = some (39, 0, 2048, 46) := by rcases c6 with rfl | rfl <;> rfl
    have hk := kids_of hg hf
    have e : plainIns (op, kids, 0, text) s = [(op, kids, 0, text)] := by rcases c6 with rfl | rfl <;> rfl
    rw [e]
    exact ⟨.one _ (.many op kids 0 text (by omega) hk0 (by omega) (by omega)) (ri_many op kids text (.inr ⟨c6, m2 (by omega)⟩) hk0 hk.2) (by omega) (by omega) (by omega) (by omega) (fun AA h => absurd h (by show ¬ op = 1; omega)), hd_one _ (by show ¬ op = 1; omega) (by show ¬ op = 5; omega)⟩
  have hc : op = 20 ∨ op = 21 ∨ op = 22 ∨ op = 57 ∨ 32 ≤ op ∧ op ≤ 48 ∨ op = 52 ∨ op = 54 ∨ op = 55 := by omega
  obtain ⟨f1, f2, f3, f4, f5, f6⟩ := plain_facts hc
  have hk := plain_kids hg hc
  have e : plainIns (op, kids, 0, text) s = [(op, 0, 0, noT)] := by
    unfold plainIns
    dsimp only [Tw.op]
    rw [if_neg (by omega), if_neg (by omega), if_neg (by omega), if_neg (by omega), if_neg (by omega), if_neg (by omega), if_neg (by omega), if_neg (by omega), if_neg (by omega)]
  rw [e]
  exact ⟨.one _ (.plain op 0 0 noT f1 f2 f3 (by rw [f4]; decide) (by omega) (by omega)) (ri_0 op f1 f4 f5) (by omega) (by omega) (by omega) (by omega) (fun AA h => absurd h (by show ¬ op = 1; omega)), hd_one _ (by show ¬ op = 1; omega) (by show ¬ op = 5; omega)⟩
theorem plain_stmt {op kids num : Int} {text : ByteArray} (h : op = 4 ∨ op = 5 ∨ op = 8 ∨ op = 9 ∨ op = 10 ∨ op = 11) (s : Int) (hs : op = 4 ∨ op = 5 ∨ op = 26 → 0 ≤ s ∧ s < 100) (fr : Nat) (h1 : 1 ≤ fr) : Frag noX noK (plainIns (op, kids, num, text) s) fr 1 0 := by
  by_cases c1 : op = 4 ∨ op = 5
  · obtain ⟨s0, s1⟩ := hs (by omega)
    have e : plainIns (op, kids, num, text) s = [(27, s, 0, noT)] := by rcases c1 with rfl | rfl <;> rfl
    rw [e]
    exact .one _ (.plain 27 s 0 noT (by unfold validOp; omega) (by decide) (by decide) (by decide) (by decide) (by decide)) (ri_slot 27 s (by omega) s0 s1) (by omega) (by omega) (by omega) (by omega) (fun AA h => absurd h (by show ¬ (27 : Int) = 1; decide))
  by_cases c2 : op = 8 ∨ op = 9
  · have e : plainIns (op, kids, num, text) s = [(op, 0, 0, noT)] := by rcases c2 with rfl | rfl <;> rfl
    rw [e]
    exact .one _ (.ends op 0 0 noT (by omega) (by rcases c2 with rfl | rfl <;> decide)) (ri_0 op (by unfold validOp; omega) (by rcases c2 with rfl | rfl <;> decide) (by rcases c2 with rfl | rfl <;> decide)) (by omega) (by omega) (by omega) (by omega) (fun AA h => absurd h (by show ¬ op = 1; omega))
  by_cases c3 : op = 10
  · subst c3
    have e : plainIns (10, kids, num, text) s = [(10, 0, 0, noT)] := rfl
    rw [e]
    exact .one _ (.plain 10 0 0 noT (by unfold validOp; omega) (by decide) (by decide) (by decide) (by decide) (by decide)) (ri_0 10 (by unfold validOp; omega) (by decide) (by decide)) (by omega) (by omega) (by omega) (by omega) (fun AA h => absurd h (by show ¬ (10 : Int) = 1; decide))
  · obtain rfl : op = 11 := by omega
    have e : plainIns (11, kids, num, text) s = [(6, 0, 0, noT)] := rfl
    rw [e]
    exact .one _ (.plain 6 0 0 noT (by unfold validOp; omega) (by decide) (by decide) (by decide) (by decide) (by decide)) (ri_0 6 (by unfold validOp; omega) (by decide) (by decide)) (by omega) (by omega) (by omega) (by omega) (fun AA h => absurd h (by show ¬ (6 : Int) = 1; decide))
end Go.Proofs.Ytkpgnopimnamfaa
namespace Go.Proofs.Ytkpgnopimnamfaa
theorem part_mem {p : Nat} {n : Int} : ∀ {ks : List Ro} {i : Nat}, okRs p n i ks → ∀ k ∈ ks, ∃ j : Nat, okR (partB p j n) k
  | [], _, _, k, hk => absurd hk (by simp)
  | r :: rs, i, h, k, hk => by
    rcases List.mem_cons.1 hk with rfl | hk
    · exact ⟨i, h.1⟩
    · exact part_mem h.2 k hk
theorem part_expr {op : Int} {t p : Nat} {l m : Int} (hf : formT op = some (t, l, m, p)) (he : exprB op = true) (h53 : ¬ op = 53) : p = 41 ∨ p = 46 := by
  unfold exprB at he
  simp only [decide_eq_true_eq] at he
  unfold formT at hf
  rw [if_neg (by omega)] at hf
  by_cases c0 : op = 2 ∨ op = 26 ∨ op = 56
  · rw [if_pos c0] at hf; cases hf; first | exact .inl rfl | exact .inr rfl
  rw [if_neg c0] at hf
  rw [if_neg (by omega)] at hf
  rw [if_neg (by omega)] at hf
  rw [if_neg (by omega)] at hf
  by_cases c4 : op = 24
  · rw [if_pos c4] at hf; cases hf; first | exact .inl rfl | exact .inr rfl
  rw [if_neg c4] at hf
  by_cases c5 : op = 25
  · rw [if_pos c5] at hf; cases hf; first | exact .inl rfl | exact .inr rfl
  rw [if_neg c5] at hf
  rw [if_neg (by omega)] at hf
  by_cases c7 : op = 20 ∨ op = 21 ∨ op = 22 ∨ op = 23 ∨ op = 57
  · rw [if_pos c7] at hf; cases hf; first | exact .inl rfl | exact .inr rfl
  rw [if_neg c7] at hf
  rw [if_neg (by omega)] at hf
  by_cases c9 : op = 8 ∨ op = 9 ∨ op = 10 ∨ op = 11 ∨ op = 43 ∨ op = 44 ∨ op = 45 ∨ op = 46 ∨ op = 47 ∨ op = 48 ∨ op = 52 ∨ op = 54 ∨ op = 55
  · rw [if_pos c9] at hf; cases hf; first | exact .inl rfl | exact .inr rfl
  rw [if_neg c9] at hf
  by_cases c10 : op = 30 ∨ op = 31 ∨ op = 32 ∨ op = 33 ∨ op = 34 ∨ op = 35 ∨ op = 36 ∨ op = 37 ∨ op = 38 ∨ op = 39 ∨ op = 40 ∨ op = 41 ∨ op = 42
  · rw [if_pos c10] at hf; cases hf; first | exact .inl rfl | exact .inr rfl
  rw [if_neg c10] at hf
  by_cases c11 : op = 50 ∨ op = 51
  · rw [if_pos c11] at hf; cases hf; first | exact .inl rfl | exact .inr rfl
  rw [if_neg c11] at hf
  cases hf
theorem part46 {i n op : Int} (h : partB 46 i n op = true) : exprB op = true := h
theorem part43 {i n op : Int} (h : partB 43 i n op = true) : stmtB op = true := h
theorem part44_0 {n op : Int} (h : partB 44 0 n op = true) : exprB op = true := by
  unfold partB headedB at h
  simpa using h
theorem part44_1 {i n op : Int} (hi : 0 < i) (h : partB 44 i n op = true) : op = 3 := by
  unfold partB headedB at h
  simp only [Nat.reduceEqDiff, if_false, if_true, Bool.or_eq_true, Bool.and_eq_true, decide_eq_true_eq, beq_iff_eq] at h
  omega
theorem part47 {i n op : Int} (h : partB 47 i n op = true) : op = 3 := by
  unfold partB at h
  simpa using h
theorem comb_rest {x : Tw} {S : Nat → Int} {gs : List (Nat × Gen)} {a fr : Nat} (h : ¬ x.op = 1 ∧ ¬ x.op = 6 ∧ ¬ x.op = 7 ∧ ¬ x.op = 30 ∧ ¬ x.op = 31 ∧ ¬ x.op = 53) : comb x S gs a fr = seqG gs (a + 1) fr ++ plainIns x (S a) := by
  unfold comb
  rw [if_neg h.1, if_neg h.2.1, if_neg h.2.2.1, if_neg (by omega), if_neg h.2.2.2.2.2]
theorem gen_frag (S : Nat → Int) : ∀ (n : Nat) (r : Ro), r.flat.length ≤ n → ∀ may, okR may r → (exprB r.op = true → ExprOk S r) ∧ (stmtB r.op = true ∨ r.op = 3 → StmtOk S r)
  | 0, r, hn, _, _ => by have := flat_pos r; omega
  | n + 1, .node (op, kids, num, text) ks, hn, may, hok => by
    obtain ⟨hg, hk, hoks⟩ := hok
    dsimp only [Tw.kids, Tw.op] at hk hoks
    simp only [Ro.flat, List.length_cons] at hn
    have ih : ∀ k ∈ ks, ∀ may, okR may k → (exprB k.op = true → ExprOk S k) ∧ (stmtB k.op = true ∨ k.op = 3 → StmtOk S k) := by
      intro k hkm may hok'
      have h1 := flats_mem hkm
      exact gen_frag S n k (by omega) may hok'
    refine ⟨fun he a hs fr d h0 h1 => ?_, fun hst a hs fr => ?_⟩
    · dsimp only [Ro.op, Tw.op] at he
      simp only [Ro.flat] at hs
      have he2 := he
      unfold exprB at he2
      simp only [decide_eq_true_eq] at he2
      have hst := hs.tail
      by_cases h30 : op = 30 ∨ op = 31
      · have hf : formT op = some (42, 2, 2, 46) := by rcases h30 with rfl | rfl <;> rfl
        have hkk := kids_of hg hf
        obtain ⟨c, b, rfl⟩ := len2 (ks := ks) (by omega)
        rw [partOf_eq hf] at hoks
        obtain ⟨o1, o2, _⟩ := hoks
        simp only [flats, List.append_nil] at hst
        obtain ⟨fc, hc⟩ := (ih c (by simp) _ o1).1 (part46 (okR_op o1)) (a + 1) hst.left fr d h0 h1
        have hcb := fc.bound
        obtain ⟨fb, _⟩ := (ih b (by simp) _ o2).1 (part46 (okR_op o2)) (a + 1 + c.flat.length) hst.right (fr + (gen S c (a + 1) fr).length + 1) d h0 (by omega)
        simp only [gen, gk]
        rcases h30 with rfl | rfl
        · rw [comb_or]
          exact ⟨bool_frag 3 (by omega) h0 fc fb, hc.left⟩
        · rw [comb_and]
          exact ⟨bool_frag 4 (by omega) h0 fc fb, hc.left⟩
      by_cases h53 : op = 53
      · subst h53
        have hf : formT 53 = some (42, 1, 1, 47) := rfl
        have hkk := kids_of hg hf
        obtain ⟨b, rfl⟩ := len1 (ks := ks) (by omega)
        rw [partOf_eq hf] at hoks
        obtain ⟨o1, _⟩ := hoks
        simp only [flats, List.append_nil] at hst
        have fb := (ih b (by simp) _ o1).2 (.inr (part47 (okR_op o1))) (a + 1) hst (fr + 2)
        simp only [gen, gk, comb_fork]
        exact ⟨fork_frag h0 h1 fb, ⟨_, rfl, by show ¬ (53 : Int) = 1; decide, by show ¬ (53 : Int) = 5; decide⟩⟩
      · obtain ⟨_, t, l, m, p, hf, hl, hm⟩ := good_form hg
        have hp := part_expr hf he h53
        rw [partOf_eq hf] at hoks
        have hke : ∀ k ∈ ks, ExprOk S k := fun k hkm => by
          obtain ⟨j, hj⟩ := part_mem hoks k hkm
          rcases hp with rfl | rfl
          · exact absurd (okR_op hj) (by unfold partB; simp)
          · exact (ih k hkm _ hj).1 (part46 (okR_op hj))
        obtain ⟨f1, g1⟩ := seq_expr ks (a + 1) fr d hke hst h0 h1
        have hb := f1.bound
        rw [hk] at f1 hb
        obtain ⟨f2, g2⟩ := plain_expr hg he ⟨by omega, by omega, h53⟩ (S a) (fun h => hs.head (.inr (.inr h))) (fr + (seqG (gk S ks) (a + 1) fr).length) d h0 (by omega) hb.2
        simp only [gen]
        rw [comb_rest ⟨by show ¬ op = 1; omega, by show ¬ op = 6; omega, by show ¬ op = 7; omega, by show ¬ op = 30; omega, by show ¬ op = 31; omega, h53⟩]
        refine ⟨f1.app f2, ?_⟩
        by_cases hks : ks = []
        · subst hks
          simp only [gk, seqG, List.nil_append]
          exact g2
        · exact (g1 hks).left
    · dsimp only [Ro.op, Tw.op] at hst
      unfold stmtB at hst
      simp only [decide_eq_true_eq] at hst
      simp only [Ro.flat] at hs
      have hs2 := hs.tail
      by_cases h3 : op = 3
      · subst h3
        rw [partOf_eq (show formT 3 = some (42, 0, 2048, 43) from rfl)] at hoks
        have hke : ∀ k ∈ ks, StmtOk S k := fun k hkm => by
          obtain ⟨j, hj⟩ := part_mem hoks k hkm
          exact (ih k hkm _ hj).2 (.inl (part43 (okR_op hj)))
        simp only [gen]
        rw [comb_rest ⟨by show ¬ (3 : Int) = 1; decide, by show ¬ (3 : Int) = 6; decide, by show ¬ (3 : Int) = 7; decide, by show ¬ (3 : Int) = 30; decide, by show ¬ (3 : Int) = 31; decide, by show ¬ (3 : Int) = 53; decide⟩]
        have e : plainIns (3, kids, num, text) (S a) = [] := rfl
        rw [e, List.append_nil]
        exact seq_stmt ks (a + 1) fr hke hs2
      by_cases h6 : op = 6
      · subst h6
        have hf : formT 6 = some (42, 2, 3, 44) := rfl
        have hkk := kids_of hg hf
        rw [partOf_eq hf] at hoks
        by_cases h2 : ks.length = 2
        · obtain ⟨c, t, rfl⟩ := len2 h2
          obtain ⟨o1, o2, _⟩ := hoks
          simp only [flats, List.append_nil] at hs2
          obtain ⟨fc, hc⟩ := (ih c (by simp) _ o1).1 (part44_0 (okR_op o1)) (a + 1) hs2.left fr 0 (Int.le_refl _) (by omega)
          have ft := (ih t (by simp) _ o2).2 (.inr (part44_1 (by omega) (okR_op o2))) (a + 1 + c.flat.length) hs2.right (fr + (gen S c (a + 1) fr).length + 1)
          simp only [gen, gk, comb_if2]
          exact if2_frag fc ft
        · obtain ⟨c, t, e, rfl⟩ := len3 (ks := ks) (by omega)
          obtain ⟨o1, o2, o3, _⟩ := hoks
          simp only [flats, List.append_nil] at hs2
          obtain ⟨fc, hc⟩ := (ih c (by simp) _ o1).1 (part44_0 (okR_op o1)) (a + 1) hs2.left fr 0 (Int.le_refl _) (by omega)
          have ft := (ih t (by simp) _ o2).2 (.inr (part44_1 (by omega) (okR_op o2))) (a + 1 + c.flat.length) hs2.right.left (fr + (gen S c (a + 1) fr).length + 1)
          have fe := (ih e (by simp) _ o3).2 (.inr (part44_1 (by omega) (okR_op o3))) (a + 1 + c.flat.length + t.flat.length) hs2.right.right (fr + (gen S c (a + 1) fr).length + 1 + (gen S t (a + 1 + c.flat.length) (fr + (gen S c (a + 1) fr).length + 1)).length + 1)
          simp only [gen, gk, comb_if3]
          exact if3_frag fc ft fe
      by_cases h7 : op = 7
      · subst h7
        have hf : formT 7 = some (42, 2, 2, 44) := rfl
        have hkk := kids_of hg hf
        rw [partOf_eq hf] at hoks
        obtain ⟨c, b, rfl⟩ := len2 (ks := ks) (by omega)
        obtain ⟨o1, o2, _⟩ := hoks
        simp only [flats, List.append_nil] at hs2
        obtain ⟨fc, hc⟩ := (ih c (by simp) _ o1).1 (part44_0 (okR_op o1)) (a + 1) hs2.left fr 0 (Int.le_refl _) (by omega)
        have fb := (ih b (by simp) _ o2).2 (.inr (part44_1 (by omega) (okR_op o2))) (a + 1 + c.flat.length) hs2.right (fr + (gen S c (a + 1) fr).length + 1)
        simp only [gen, gk, comb_while]
        exact while_frag fc hc fb
      have hc : op = 4 ∨ op = 5 ∨ op = 8 ∨ op = 9 ∨ op = 10 ∨ op = 11 := by omega
      have hf : ∃ t, formT op = some (t, 1, 1, 46) := by
        rcases hc with rfl | rfl | rfl | rfl | rfl | rfl <;> exact ⟨_, rfl⟩
      obtain ⟨t, hf⟩ := hf
      have hkk := kids_of hg hf
      rw [partOf_eq hf] at hoks
      obtain ⟨e, rfl⟩ := len1 (ks := ks) (by omega)
      obtain ⟨f1, _⟩ := seq_expr [e] (a + 1) fr 0 (fun k hkm => by
        obtain ⟨j, hj⟩ := part_mem hoks k hkm
        exact (ih k hkm _ hj).1 (part46 (okR_op hj))) hs2 (Int.le_refl _) (by omega)
      have hb := f1.bound
      simp only [List.length_singleton] at f1 hb
      simp only [gen]
      rw [comb_rest ⟨by show ¬ op = 1; omega, h6, h7, by show ¬ op = 30; omega, by show ¬ op = 31; omega, by show ¬ op = 53; omega⟩]
      exact Frag.app f1 (plain_stmt hc (S a) hs.head _ (by omega))
end Go.Proofs.Ytkpgnopimnamfaa
