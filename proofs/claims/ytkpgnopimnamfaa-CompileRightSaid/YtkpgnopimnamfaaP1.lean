/- What check.Slots makes of a right tree. -/
import Derived.Test.YtkpgnopimnamfaaP0
import Derived.Test.YtkpgnopimnamfaaS0
namespace Go.Proofs.Ytkpgnopimnamfaa
/-- What a walk comes to: the name that is seen behind it, its slot, how many were made, the slots laid, the fault, how far it came. -/
abbrev SlR : Type := ByteArray × Int × Nat × List Int × Int × Nat
/-- A twig by itself: name, slot, how many were made, its entry, the fault. -/
def hdS (x : Tw) (L : Seen) (made : Nat) : ByteArray × Int × Nat × Int × Int :=
  if x.op = 2 ∨ x.op = 4 then (x.text, (made : Int), made + 1, (made : Int), entF L made x.text)
  else if x.op = 5 ∨ x.op = 26 then (⟨#[]⟩, -1, made, (li L x.text).getD 0, if (li L x.text).isSome = true then 0 else 110)
  else (⟨#[]⟩, -1, made, -1, 0)
mutual
def sl (L : Seen) (made : Nat) : Ro → SlR
  | .node x ks =>
    if (hdS x L made).2.2.2.2 = 0 then
      ((hdS x L made).1, (hdS x L made).2.1, (sls L (hdS x L made).2.2.1 ks).1, (hdS x L made).2.2.2.1 :: (sls L (hdS x L made).2.2.1 ks).2.1, (sls L (hdS x L made).2.2.1 ks).2.2.1, (sls L (hdS x L made).2.2.1 ks).2.2.2 + 1)
    else (⟨#[]⟩, -1, (hdS x L made).2.2.1, [(hdS x L made).2.2.2.1], (hdS x L made).2.2.2.2, 0)
/-- Of a list: how many were made, the slots, the fault, how far. -/
def sls (L : Seen) (made : Nat) : List Ro → Nat × List Int × Int × Nat
  | [] => (made, [], 0, 0)
  | r :: rs =>
    if (sl L made r).2.2.2.2.1 = 0 then
      ((sls (if (sl L made r).1 = ⟨#[]⟩ then L else L ++ [((sl L made r).1, (sl L made r).2.1)]) (sl L made r).2.2.1 rs).1,
       (sl L made r).2.2.2.1 ++ (sls (if (sl L made r).1 = ⟨#[]⟩ then L else L ++ [((sl L made r).1, (sl L made r).2.1)]) (sl L made r).2.2.1 rs).2.1,
       (sls (if (sl L made r).1 = ⟨#[]⟩ then L else L ++ [((sl L made r).1, (sl L made r).2.1)]) (sl L made r).2.2.1 rs).2.2.1,
       (sl L made r).2.2.2.2.2 + (sls (if (sl L made r).1 = ⟨#[]⟩ then L else L ++ [((sl L made r).1, (sl L made r).2.1)]) (sl L made r).2.2.1 rs).2.2.2)
    else ((sl L made r).2.2.1, (sl L made r).2.2.2.1, (sl L made r).2.2.2.2.1, (sl L made r).2.2.2.2.2)
end
/-- What is seen behind a tree. -/
def seenBy (L : Seen) (R : SlR) : Seen := if R.1 = ⟨#[]⟩ then L else L ++ [(R.1, R.2.1)]
theorem sls_cons (L : Seen) (made : Nat) (r : Ro) (rs : List Ro) : sls L made (r :: rs) =
    if (sl L made r).2.2.2.2.1 = 0 then
      ((sls (seenBy L (sl L made r)) (sl L made r).2.2.1 rs).1, (sl L made r).2.2.2.1 ++ (sls (seenBy L (sl L made r)) (sl L made r).2.2.1 rs).2.1,
       (sls (seenBy L (sl L made r)) (sl L made r).2.2.1 rs).2.2.1, (sl L made r).2.2.2.2.2 + (sls (seenBy L (sl L made r)) (sl L made r).2.2.1 rs).2.2.2)
    else ((sl L made r).2.2.1, (sl L made r).2.2.2.1, (sl L made r).2.2.2.2.1, (sl L made r).2.2.2.2.2) := by rw [sls]; rfl
theorem hdS_made (x : Tw) (L : Seen) (made : Nat) : made ≤ (hdS x L made).2.2.1 ∧ (hdS x L made).2.2.1 ≤ made + 1 := by
  unfold hdS
  split
  · simp
  · split <;> simp
mutual
theorem sl_facts (L : Seen) (made : Nat) : ∀ r : Ro, made ≤ (sl L made r).2.2.1 ∧ (sl L made r).2.2.1 ≤ made + r.flat.length ∧ (sl L made r).2.2.2.1.length ≤ r.flat.length ∧ ((sl L made r).2.2.2.2.1 = 0 → (sl L made r).2.2.2.1.length = r.flat.length ∧ (sl L made r).2.2.2.2.2 = r.flat.length)
  | .node x ks => by
    have hm := hdS_made x L made
    unfold sl
    split
    · have h := sls_facts L (hdS x L made).2.2.1 ks
      simp only [Ro.flat, List.length_cons]
      refine ⟨by omega, by omega, by omega, fun h0 => ?_⟩
      have := h.2.2.2 h0
      omega
    · rename_i h0
      simp only [Ro.flat, List.length_cons, List.length_nil]
      exact ⟨by omega, by omega, by omega, fun h1 => absurd h1 h0⟩
theorem sls_facts (L : Seen) (made : Nat) : ∀ rs : List Ro, made ≤ (sls L made rs).1 ∧ (sls L made rs).1 ≤ made + (flats rs).length ∧ (sls L made rs).2.1.length ≤ (flats rs).length ∧ ((sls L made rs).2.2.1 = 0 → (sls L made rs).2.1.length = (flats rs).length ∧ (sls L made rs).2.2.2 = (flats rs).length)
  | [] => by simp [sls, flats]
  | r :: rs => by
    have h1 := sl_facts L made r
    rw [sls_cons]
    split
    · rename_i h0
      have h2 := sls_facts (seenBy L (sl L made r)) (sl L made r).2.2.1 rs
      simp only [flats, List.length_append]
      refine ⟨by omega, by omega, by omega, fun h3 => ?_⟩
      have := h2.2.2.2 h3
      have := h1.2.2.2 h0
      omega
    · rename_i h0
      simp only [flats, List.length_append]
      exact ⟨by omega, by omega, by omega, fun h3 => absurd h3 h0⟩
end
/-- A name that is seen behind a tree was not seen ahead of it. -/
theorem sl_new (L : Seen) (made : Nat) (r : Ro) (h0 : (sl L made r).2.2.2.2.1 = 0) (hn : (sl L made r).1 ≠ ⟨#[]⟩) : li L (sl L made r).1 = none := by
  obtain ⟨x, ks⟩ := r
  unfold sl at h0 hn ⊢
  by_cases hf : (hdS x L made).2.2.2.2 = 0
  · simp only [if_pos hf] at h0 hn ⊢
    unfold hdS at hf hn ⊢
    by_cases h1 : x.op = 2 ∨ x.op = 4
    · simp only [if_pos h1] at hf hn ⊢
      unfold entF at hf
      cases hl : li L x.text with
      | none => rfl
      | some s => rw [hl] at hf; simp at hf
    · simp only [if_neg h1] at hn
      split at hn <;> simp at hn
  · simp only [if_neg hf] at h0
    exact absurd h0 hf
theorem li_app (L M : Seen) (k : ByteArray) : li (L ++ M) k = (li L k).or (li M k) := by
  unfold li
  rw [List.find?_append]
  cases List.find? (fun p => decide (p.1 = k)) L <;> simp
end Go.Proofs.Ytkpgnopimnamfaa
