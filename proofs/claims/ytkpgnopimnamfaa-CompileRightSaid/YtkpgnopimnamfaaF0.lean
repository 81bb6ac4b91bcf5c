/- goer.next, whole. -/
import Derived.Test.YtkpgnopimnamfaaE4
import Derived.Test.YtkpgnopimnamfaaE5
import Derived.Test.YtkpgnopimnamfaaE6
import Derived.Test.YtkpgnopimnamfaaE7
import Derived.Test.YtkpgnopimnamfaaE8
import Derived.Test.YtkpgnopimnamfaaE9
import Derived.Test.YtkpgnopimnamfaaS4
namespace Go.Proofs.Ytkpgnopimnamfaa
open Go.ChangeShapes Go.WideShapes Go.ChangeAt Go.RowKit
theorem good_form {op kids num : Int} {text : ByteArray} {q : Bool} (h : good (op, kids, num, text) q = true) : q = true ∧ ∃ t l m p, formT op = some (t, l, m, p) ∧ l ≤ kids ∧ kids ≤ m := by
  unfold good at h
  dsimp only [Tw.op, Tw.kids] at h
  cases hf : formT op with
  | none => simp only [hf] at h; cases h
  | some f =>
    obtain ⟨t, l, m, p⟩ := f
    simp only [hf, Bool.and_eq_true, decide_eq_true_eq] at h
    exact ⟨h.1.1.1.1.1, t, l, m, p, rfl, h.1.1.1.2, h.1.1.2⟩
theorem kids_of {op kids num : Int} {text : ByteArray} {q : Bool} (h : good (op, kids, num, text) q = true) {t p : Nat} {l m : Int} (hf : formT op = some (t, l, m, p)) : l ≤ kids ∧ kids ≤ m := by
  obtain ⟨_, t', l', m', p', hf', h1, h2⟩ := good_form h
  rw [hf] at hf'
  cases hf'
  exact ⟨h1, h2⟩
theorem len2 {ks : List Ro} (h : ks.length = 2) : ∃ c b, ks = [c, b] := by
  match ks, h with
  | [c, b], _ => exact ⟨c, b, rfl⟩
theorem len3 {ks : List Ro} (h : ks.length = 3) : ∃ c b e, ks = [c, b, e] := by
  match ks, h with
  | [c, b, e], _ => exact ⟨c, b, e, rfl⟩
theorem len1 {ks : List Ro} (h : ks.length = 1) : ∃ c, ks = [c] := by
  match ks, h with
  | [c], _ => exact ⟨c, rfl⟩
/-- The parameters ahead of a flow's block are single twigs. -/
theorem params_len {n : Int} : ∀ (ps : List Ro) (b : Ro) (i : Nat), okRs 40 n i (ps ++ [b]) → (i : Int) + ps.length + 1 = n → (flats ps).length = ps.length
  | [], _, _, _, _ => rfl
  | .node (op, kids, num, text) ks :: ps, b, i, h, hn => by
    simp only [List.cons_append] at h
    obtain ⟨h1, h2⟩ := h
    have h3 := params_len ps b (i + 1) h2 (by simp only [List.length_cons] at hn; omega)
    obtain ⟨hg, hk, _⟩ := h1
    obtain ⟨hq, _⟩ := good_form hg
    have hop : op = 2 := by
      simp only [List.length_cons] at hn
      dsimp only [Tw.op] at hq
      unfold partB paramsB at hq
      simp only [if_pos, Bool.or_eq_true, Bool.and_eq_true, decide_eq_true_eq, beq_iff_eq] at hq
      omega
    subst hop
    have hf : formT 2 = some (39, 0, 0, 41) := rfl
    have := kids_of hg hf
    dsimp only [Tw.kids] at hk
    have : ks = [] := List.eq_nil_of_length_eq_zero (by omega)
    subst this
    simp [flats, Ro.flat]; omega
theorem nxall {B G : Nat} {pa : Option Addr} {cap : Nat} {T : List Tw} {ps : Option Addr} {cs : Nat} {Sl : List Int} {S : Nat → Int} : ∀ (ks : List Ro) (a : Nat), (∀ k ∈ ks, ∀ a, Lies T a k.flat → NxAt B G pa cap T ps cs Sl (k.flat.length, gen S k) a) → Lies T a (flats ks) → NxAll B G pa cap T ps cs Sl (gk S ks) a
  | [], _, _, _ => trivial
  | k :: ks, a, h, hl => by
    simp only [flats] at hl
    exact ⟨h k (by simp) a hl.left, nxall ks _ (fun k' hk' => h k' (by simp [hk'])) hl.right⟩
/-- next goes through every right tree. -/
theorem nx_any (B G : Nat) (hB : B ≤ G) (pa ps : Option Addr) (cap cs : Nat) (T : List Tw) (Sl : List Int) (hT : T.length ≤ 2048) (hS : Sl.length = T.length) : ∀ (n : Nat) (r : Ro), r.flat.length ≤ n → ∀ may, okR may r → ∀ a, Lies T a r.flat →
    NxAt B G pa cap T ps cs Sl (r.flat.length, gen (fun k => Sl.getD k 0) r) a
  | 0, r, hn, _, _, _, _ => by have := flat_pos r; omega
  | n + 1, .node (op, kids, num, text) ks, hn, may, hok, a, hl => by
    refine ⟨fun b fr => gen_len _ _ b fr, ?_⟩
    intro w C hR hG hC
    obtain ⟨hg, hk, hoks⟩ := hok
    dsimp only [Tw.kids] at hk hoks
    simp only [Ro.flat, List.length_cons] at hn hC
    have hx := hl.head
    have hlt := hl.tail
    change Lies T (a + 1) (flats ks) at hlt
    have hle : a + 1 + (flats ks).length ≤ T.length ∨ (flats ks).length = 0 := by
      rcases Nat.eq_zero_or_pos (flats ks).length with h | h
      · exact .inr h
      · exact .inl (hlt.le h)
    have ih : ∀ k ∈ ks, ∀ a, Lies T a k.flat → NxAt B G pa cap T ps cs Sl (k.flat.length, gen (fun k => Sl.getD k 0) k) a := by
      intro k hkm a' hl'
      obtain ⟨may', hok'⟩ := okRs_mem hoks k hkm
      have h1 := flats_mem hkm
      exact nx_any B G hB pa ps cap cs T Sl hT hS n k (by omega) may' hok' a' hl'
    have hlen := flats_len ks
    have hfl : (Ro.node (op, kids, num, text) ks).flat.length = (flats ks).length + 1 := by simp [Ro.flat]
    have hpl : a + (Ro.node (op, kids, num, text) ks).flat.length = a + 1 + (flats ks).length := by omega
    rw [hpl]
    simp only [gen]
    by_cases h1 : op = 1
    · subst h1
      have hkk := kids_of hg (show formT 1 = some (39, 1, 2048, 40) from rfl)
      obtain ⟨ps', b, rfl⟩ : ∃ ps' b, ks = ps' ++ [b] := by
        rcases List.eq_nil_or_concat ks with rfl | ⟨ps', b, rfl⟩
        · simp at hk; omega
        · exact ⟨ps', b, by simp⟩
      change okRs 40 kids 0 (ps' ++ [b]) at hoks
      have hpl2 := params_len ps' b 0 hoks (by rw [← hk]; simp)
      have hfs : (flats (ps' ++ [b])).length = ps'.length + b.flat.length := by rw [flats_app]; simp [flats, hpl2]
      have hlb : Lies T (a + 1 + ps'.length) b.flat := by
        rw [flats_app] at hlt
        have := hlt.right
        rw [hpl2] at this
        simpa [flats] using this
      have := next_flow w B G hB pa ps cap cs T Sl hT hS a C kids num text hx hR hG ps'.length (by simp only [List.length_append, List.length_singleton] at hk; omega) (by rw [← hk]; simp) (b.flat.length, gen (fun k => Sl.getD k 0) b) (ih b (by simp) _ hlb) (by dsimp only; omega)
      have hcomb : comb (1, kids, num, text) (fun k => Sl.getD k 0) (gk (fun k => Sl.getD k 0) (ps' ++ [b])) a C.length = (gen (fun k => Sl.getD k 0) b (a + 1 + ps'.length) C.length ++ [(28, 0, 0, noT)]) := by
        have hgl : ∀ l : List Ro, gk (fun k => Sl.getD k 0) (l ++ [b]) = gk (fun k => Sl.getD k 0) l ++ [(b.flat.length, gen (fun k => Sl.getD k 0) b)] := by
          intro l
          induction l with
          | nil => rfl
          | cons r l ih => simp only [List.cons_append, gk]; rw [ih]
        unfold comb
        rw [if_pos rfl, flowG, hgl]
        simp only [List.getLast?_append, List.getLast?_singleton, Option.some_or, List.length_append, gk_len, List.length_singleton]
        have : a + (ps'.length + 1) = a + 1 + ps'.length := by omega
        rw [this]
      rw [hcomb, hfs]
      exact this
    by_cases h6 : op = 6
    · subst h6
      have hkk := kids_of hg (show formT 6 = some (42, 2, 3, 44) from rfl)
      by_cases h2 : ks.length = 2
      · obtain ⟨c, t, rfl⟩ := len2 h2
        obtain rfl : kids = 2 := by rw [← hk]; rfl
        have hfs : (flats [c, t]).length = c.flat.length + t.flat.length := by simp [flats]
        simp only [flats, List.append_nil] at hlt
        have := next_if2 w B G hB pa ps cap cs T Sl hT hS a C num text hx hR hG (c.flat.length, gen (fun k => Sl.getD k 0) c) (t.flat.length, gen (fun k => Sl.getD k 0) t) (ih c (by simp) _ hlt.left) (ih t (by simp) _ hlt.right) (by dsimp only; omega)
        rw [hfs]
        exact this
      · have h3 : ks.length = 3 := by omega
        obtain ⟨c, t, e, rfl⟩ := len3 h3
        obtain rfl : kids = 3 := by rw [← hk]; rfl
        have hfs : (flats [c, t, e]).length = c.flat.length + t.flat.length + e.flat.length := by simp [flats]; omega
        simp only [flats, List.append_nil] at hlt
        have := next_if3 w B G hB pa ps cap cs T Sl hT hS a C num text hx hR hG (c.flat.length, gen (fun k => Sl.getD k 0) c) (t.flat.length, gen (fun k => Sl.getD k 0) t) (e.flat.length, gen (fun k => Sl.getD k 0) e) (ih c (by simp) _ hlt.left) (ih t (by simp) _ hlt.right.left) (ih e (by simp) _ hlt.right.right) (by dsimp only; omega)
        rw [hfs]
        exact this
    by_cases h7 : op = 7
    · subst h7
      have hkk := kids_of hg (show formT 7 = some (42, 2, 2, 44) from rfl)
      obtain ⟨c, b, rfl⟩ := len2 (ks := ks) (by omega)
      have hfs : (flats [c, b]).length = c.flat.length + b.flat.length := by simp [flats]
      simp only [flats, List.append_nil] at hlt
      have := next_while w B G hB pa ps cap cs T Sl hT hS a C kids num text hx hR hG (c.flat.length, gen (fun k => Sl.getD k 0) c) (b.flat.length, gen (fun k => Sl.getD k 0) b) (ih c (by simp) _ hlt.left) (ih b (by simp) _ hlt.right) (by dsimp only; omega)
      rw [hfs]
      exact this
    by_cases h30 : op = 30
    · subst h30
      have hkk := kids_of hg (show formT 30 = some (42, 2, 2, 46) from rfl)
      obtain ⟨c, b, rfl⟩ := len2 (ks := ks) (by omega)
      have hfs : (flats [c, b]).length = c.flat.length + b.flat.length := by simp [flats]
      simp only [flats, List.append_nil] at hlt
      have := next_or w B G hB pa ps cap cs T Sl hT hS a C kids num text hx hR hG (c.flat.length, gen (fun k => Sl.getD k 0) c) (b.flat.length, gen (fun k => Sl.getD k 0) b) (ih c (by simp) _ hlt.left) (ih b (by simp) _ hlt.right) (by dsimp only; omega)
      rw [hfs]
      exact this
    by_cases h31 : op = 31
    · subst h31
      have hkk := kids_of hg (show formT 31 = some (42, 2, 2, 46) from rfl)
      obtain ⟨c, b, rfl⟩ := len2 (ks := ks) (by omega)
      have hfs : (flats [c, b]).length = c.flat.length + b.flat.length := by simp [flats]
      simp only [flats, List.append_nil] at hlt
      have := next_and w B G hB pa ps cap cs T Sl hT hS a C kids num text hx hR hG (c.flat.length, gen (fun k => Sl.getD k 0) c) (b.flat.length, gen (fun k => Sl.getD k 0) b) (ih c (by simp) _ hlt.left) (ih b (by simp) _ hlt.right) (by dsimp only; omega)
      rw [hfs]
      exact this
    by_cases h53 : op = 53
    · subst h53
      have hkk := kids_of hg (show formT 53 = some (42, 1, 1, 47) from rfl)
      obtain ⟨b, rfl⟩ := len1 (ks := ks) (by omega)
      have hfs : (flats [b]).length = b.flat.length := by simp [flats]
      simp only [flats, List.append_nil] at hlt
      have := next_fork w B G hB pa ps cap cs T Sl hT hS a C kids num text hx hR hG (b.flat.length, gen (fun k => Sl.getD k 0) b) (ih b (by simp) _ hlt) (by dsimp only; omega)
      rw [hfs]
      exact this
    · have hkg : ((gk (fun k => Sl.getD k 0) ks).length : Int) = kids := by rw [gk_len]; exact hk
      have hsz := sizes_gk (fun k => Sl.getD k 0) ks
      have := next_default w B G hB pa ps cap cs T Sl hT hS a C op num text (gk (fun k => Sl.getD k 0) ks) (by rw [hkg]; exact hx) hR hG (by rw [gk_len]; omega) (gk_short _ ks) (nxall ks _ ih hlt) ⟨h1, h6, h7, h30, h31, h53⟩ (by rw [hsz]; omega)
      have hcomb : comb (op, kids, num, text) (fun k => Sl.getD k 0) (gk (fun k => Sl.getD k 0) ks) a C.length = seqG (gk (fun k => Sl.getD k 0) ks) (a + 1) C.length ++ plainIns (op, kids, num, text) (Sl.getD a 0) := by
        unfold comb
        rw [if_neg h1, if_neg h6, if_neg h7, if_neg (fun h => h.elim h30 h31), if_neg h53]
      rw [hkg, hsz] at this
      rw [hcomb]
      exact this
end Go.Proofs.Ytkpgnopimnamfaa
