/- The code of a right tree. -/
import Derived.Test.YtkpgnopimnamfaaP1
import Derived.Test.YtkpgnopimnamfaaE0
namespace Go.Proofs.Ytkpgnopimnamfaa
/-- The code of a tree, by its place in the twigs and its place in the code. -/
abbrev Gen : Type := Nat → Nat → List Ins
abbrev noT : ByteArray := ⟨#[]⟩
def plainIns (x : Tw) (slot : Int) : List Ins :=
  if x.op = 3 then []
  else if x.op = 4 ∨ x.op = 5 then [(27, slot, 0, noT)]
  else if x.op = 26 then [(26, slot, 0, noT)]
  else if x.op = 11 then [(6, 0, 0, noT)]
  else if x.op = 23 then [(23, 0, x.num, noT)]
  else if x.op = 24 then [(24, 0, 0, x.text)]
  else if x.op = 25 then [(25, x.kids, 0, noT)]
  else if x.op = 50 ∨ x.op = 51 then [(x.op, x.kids, 0, x.text)]
  else if x.op = 56 then [(56, 0, 0, x.text)]
  else [(x.op, 0, 0, noT)]
def seqG : List (Nat × Gen) → Nat → Nat → List Ins
  | [], _, _ => []
  | g :: gs, a, fr => g.2 a fr ++ seqG gs (a + g.1) (fr + (g.2 a fr).length)
def flowG (gs : List (Nat × Gen)) (a fr : Nat) : List Ins := match gs.getLast? with
  | some g => g.2 (a + gs.length) fr ++ [(28, 0, 0, noT)]
  | none => [(28, 0, 0, noT)]
def if2G (c t : Nat × Gen) (a fr : Nat) : List Ins :=
  c.2 (a + 1) fr ++ (2, ((fr + (c.2 (a + 1) fr).length + 1 + (t.2 (a + 1 + c.1) (fr + (c.2 (a + 1) fr).length + 1)).length : Nat) : Int), 0, noT) :: t.2 (a + 1 + c.1) (fr + (c.2 (a + 1) fr).length + 1)
def if3G (c t e : Nat × Gen) (a fr : Nat) : List Ins :=
  c.2 (a + 1) fr ++ (2, ((fr + (c.2 (a + 1) fr).length + 1 + (t.2 (a + 1 + c.1) (fr + (c.2 (a + 1) fr).length + 1)).length + 1 : Nat) : Int), 0, noT) :: (t.2 (a + 1 + c.1) (fr + (c.2 (a + 1) fr).length + 1) ++
    (1, ((fr + (c.2 (a + 1) fr).length + 1 + (t.2 (a + 1 + c.1) (fr + (c.2 (a + 1) fr).length + 1)).length + 1 + (e.2 (a + 1 + c.1 + t.1) (fr + (c.2 (a + 1) fr).length + 1 + (t.2 (a + 1 + c.1) (fr + (c.2 (a + 1) fr).length + 1)).length + 1)).length : Nat) : Int), 0, noT) ::
      e.2 (a + 1 + c.1 + t.1) (fr + (c.2 (a + 1) fr).length + 1 + (t.2 (a + 1 + c.1) (fr + (c.2 (a + 1) fr).length + 1)).length + 1))
def whileG (c b : Nat × Gen) (a fr : Nat) : List Ins :=
  c.2 (a + 1) fr ++ (2, ((fr + (c.2 (a + 1) fr).length + 1 + (b.2 (a + 1 + c.1) (fr + (c.2 (a + 1) fr).length + 1)).length + 1 : Nat) : Int), 0, noT) :: (b.2 (a + 1 + c.1) (fr + (c.2 (a + 1) fr).length + 1) ++ [(1, (fr : Int), 0, noT)])
def boolG (op : Int) (c b : Nat × Gen) (a fr : Nat) : List Ins :=
  c.2 (a + 1) fr ++ (op, ((fr + (c.2 (a + 1) fr).length + 1 + (b.2 (a + 1 + c.1) (fr + (c.2 (a + 1) fr).length + 1)).length + 1 : Nat) : Int), 0, noT) :: (b.2 (a + 1 + c.1) (fr + (c.2 (a + 1) fr).length + 1) ++ [(5, 0, 0, noT)])
def forkG (b : Nat × Gen) (a fr : Nat) : List Ins :=
  (53, ((fr + 2 : Nat) : Int), 0, noT) :: (1, ((fr + 2 + (b.2 (a + 1) (fr + 2)).length + 1 : Nat) : Int), 0, noT) :: (b.2 (a + 1) (fr + 2) ++ [(28, 0, 0, noT)])
def comb (x : Tw) (S : Nat → Int) (gs : List (Nat × Gen)) (a fr : Nat) : List Ins :=
  if x.op = 1 then flowG gs a fr
  else if x.op = 6 then (match gs with
    | [c, t] => if2G c t a fr
    | [c, t, e] => if3G c t e a fr
    | _ => [])
  else if x.op = 7 then (match gs with
    | [c, b] => whileG c b a fr
    | _ => [])
  else if x.op = 30 ∨ x.op = 31 then (match gs with
    | [c, b] => boolG (if x.op = 31 then 4 else 3) c b a fr
    | _ => [])
  else if x.op = 53 then (match gs with
    | [b] => forkG b a fr
    | _ => [])
  else seqG gs (a + 1) fr ++ plainIns x (S a)
mutual
def gen (S : Nat → Int) : Ro → Gen
  | .node x ks => comb x S (gk S ks)
def gk (S : Nat → Int) : List Ro → List (Nat × Gen)
  | [] => []
  | r :: rs => (r.flat.length, gen S r) :: gk S rs
end
theorem gk_len (S : Nat → Int) : ∀ ks, (gk S ks).length = ks.length
  | [] => rfl
  | r :: rs => by simp [gk, gk_len S rs]
/-- How many twigs. -/
def sizes (gs : List (Nat × Gen)) : Nat := (gs.map (·.1)).sum
theorem sizes_gk (S : Nat → Int) : ∀ ks, sizes (gk S ks) = (flats ks).length
  | [] => rfl
  | r :: rs => by
    have := sizes_gk S rs
    simp only [gk, sizes, List.map_cons, List.sum_cons, flats, List.length_append] at *
    omega
/-- Each part's code is at most three times as long as its twigs are many. -/
def Short (gs : List (Nat × Gen)) : Prop := ∀ g ∈ gs, ∀ a fr, (g.2 a fr).length ≤ 3 * g.1
theorem seqG_len : ∀ (gs : List (Nat × Gen)) (a fr : Nat), Short gs → (seqG gs a fr).length ≤ 3 * sizes gs
  | [], _, _, _ => by simp [seqG]
  | g :: gs, a, fr, h => by
    have h1 := h g (by simp) a fr
    have h2 := seqG_len gs (a + g.1) (fr + (g.2 a fr).length) (fun x hx => h x (by simp [hx]))
    simp only [seqG, List.length_append, sizes, List.map_cons, List.sum_cons] at *
    omega
theorem plainIns_len (x : Tw) (s : Int) : (plainIns x s).length ≤ 1 := by
  unfold plainIns
  repeat' split
  all_goals simp
theorem last_size {gs : List (Nat × Gen)} {g : Nat × Gen} (h : gs.getLast? = some g) : g.1 ≤ sizes gs := by
  obtain ⟨l, rfl⟩ : ∃ l, gs = l ++ [g] := by
    rw [List.getLast?_eq_some_iff] at h; exact h
  simp [sizes]
theorem comb_len (x : Tw) (S : Nat → Int) (gs : List (Nat × Gen)) (a fr : Nat) (h : Short gs) : (comb x S gs a fr).length ≤ 3 * sizes gs + 3 := by
  unfold comb
  split
  · unfold flowG
    split
    · rename_i g hg
      have h1 := h g (List.mem_of_getLast? hg) (a + gs.length) fr
      have h2 := last_size hg
      simp only [List.length_append, List.length_singleton]; omega
    · simp
  · split
    · split
      · rename_i c t
        have h1 := h c (by simp); have h2 := h t (by simp)
        have h3 := h1 (a + 1) fr
        have h4 := h2 (a + 1 + c.1) (fr + (c.2 (a + 1) fr).length + 1)
        simp only [if2G, List.length_append, List.length_cons, sizes, List.map_cons, List.sum_cons, List.map_nil, List.sum_nil]; omega
      · rename_i c t e
        have h1 := h c (by simp); have h2 := h t (by simp); have h3 := h e (by simp)
        have h4 := h1 (a + 1) fr
        have h5 := h2 (a + 1 + c.1) (fr + (c.2 (a + 1) fr).length + 1)
        have h6 := h3 (a + 1 + c.1 + t.1) (fr + (c.2 (a + 1) fr).length + 1 + (t.2 (a + 1 + c.1) (fr + (c.2 (a + 1) fr).length + 1)).length + 1)
        simp only [if3G, List.length_append, List.length_cons, sizes, List.map_cons, List.sum_cons, List.map_nil, List.sum_nil]; omega
      · simp
    · split
      · split
        · rename_i c t
          have h1 := h c (by simp); have h2 := h t (by simp)
          have h3 := h1 (a + 1) fr
          have h4 := h2 (a + 1 + c.1) (fr + (c.2 (a + 1) fr).length + 1)
          simp only [whileG, List.length_append, List.length_cons, List.length_nil, sizes, List.map_cons, List.sum_cons, List.map_nil, List.sum_nil]; omega
        · simp
      · split
        · split
          · rename_i c t
            have h1 := h c (by simp); have h2 := h t (by simp)
            have h3 := h1 (a + 1) fr
            have h4 := h2 (a + 1 + c.1) (fr + (c.2 (a + 1) fr).length + 1)
            simp only [boolG, List.length_append, List.length_cons, List.length_nil, sizes, List.map_cons, List.sum_cons, List.map_nil, List.sum_nil]; omega
          · simp
        · split
          · split
            · rename_i c
              have h1 := h c (by simp) (a + 1) (fr + 2)
              simp only [forkG, List.length_append, List.length_cons, List.length_nil, sizes, List.map_cons, List.sum_cons, List.map_nil, List.sum_nil]; omega
            · simp
          · have h1 := seqG_len gs (a + 1) fr h
            have h2 := plainIns_len x (S a)
            simp only [List.length_append]; omega
mutual
theorem gen_len (S : Nat → Int) : ∀ (r : Ro) (a fr : Nat), (gen S r a fr).length ≤ 3 * r.flat.length
  | .node x ks, a, fr => by
    have h := comb_len x S (gk S ks) a fr (gk_short S ks)
    rw [sizes_gk] at h
    simp only [gen, Ro.flat, List.length_cons]
    omega
theorem gk_short (S : Nat → Int) : ∀ ks, Short (gk S ks)
  | [] => by simp [Short, gk]
  | r :: rs => by
    intro g hg a fr
    simp only [gk, List.mem_cons] at hg
    rcases hg with rfl | hg
    · exact gen_len S r a fr
    · exact gk_short S rs g hg a fr
end
end Go.Proofs.Ytkpgnopimnamfaa
