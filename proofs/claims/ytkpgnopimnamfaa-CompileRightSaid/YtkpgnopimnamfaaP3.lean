/- Holes that are filled in: the code of a tree as next lays it. -/
import Derived.Test.YtkpgnopimnamfaaE3
namespace Go.Proofs.Ytkpgnopimnamfaa
theorem fill_cut {L : List Ins} {k : Nat} (X : List Ins) (y : Ins) (Z : List Ins) (h : L = X ++ y :: Z) (hk : k = X.length) (v : Int) : fillAt L k v = X ++ (y.1, v, y.2.2) :: Z := by
  subst h; subst hk; exact fillAt_mid X y Z v
theorem while_eq {c b : Nat × Gen} {a : Nat} {C c1 b1 : List Ins} (hc : c.2 (a + 1) C.length = c1) (hb : b.2 (a + 1 + c.1) (C ++ c1 ++ [(2, 0, 0, noT)]).length = b1) :
    fillAt (C ++ c1 ++ [(2, 0, 0, noT)] ++ b1 ++ [(1, (C.length : Int), 0, noT)]) (C ++ c1).length ((C ++ c1 ++ [(2, 0, 0, noT)] ++ b1 ++ [(1, (C.length : Int), 0, noT)]).length : Nat) = C ++ whileG c b a C.length := by
  have hl : (C ++ c1 ++ [((2 : Int), (0 : Int), (0 : Int), noT)]).length = C.length + c1.length + 1 := by simp; omega
  rw [hl] at hb
  have hn : ((C ++ c1 ++ [(2, 0, 0, noT)] ++ b1 ++ [(1, (C.length : Int), 0, noT)]).length : Nat) = C.length + c1.length + 1 + b1.length + 1 := by simp; omega
  rw [hn, fill_cut (C ++ c1) (2, 0, 0, noT) (b1 ++ [(1, (C.length : Int), 0, noT)]) (by simp) rfl]
  unfold whileG
  rw [hc, hb]
  simp only [List.append_assoc]
theorem bool_eq {c b : Nat × Gen} {a : Nat} {C c1 b1 : List Ins} (op : Int) (hc : c.2 (a + 1) C.length = c1) (hb : b.2 (a + 1 + c.1) (C ++ c1 ++ [(op, 0, 0, noT)]).length = b1) :
    fillAt (C ++ c1 ++ [(op, 0, 0, noT)] ++ b1 ++ [(5, 0, 0, noT)]) (C ++ c1).length ((C ++ c1 ++ [(op, 0, 0, noT)] ++ b1 ++ [(5, 0, 0, noT)]).length : Nat) = C ++ boolG op c b a C.length := by
  have hl : (C ++ c1 ++ [(op, (0 : Int), (0 : Int), noT)]).length = C.length + c1.length + 1 := by simp; omega
  rw [hl] at hb
  have hn : ((C ++ c1 ++ [(op, 0, 0, noT)] ++ b1 ++ [(5, 0, 0, noT)]).length : Nat) = C.length + c1.length + 1 + b1.length + 1 := by simp; omega
  rw [hn, fill_cut (C ++ c1) (op, 0, 0, noT) (b1 ++ [(5, 0, 0, noT)]) (by simp) rfl]
  unfold boolG
  rw [hc, hb]
  simp only [List.append_assoc]
theorem if2_eq {c t : Nat × Gen} {a : Nat} {C c1 t1 : List Ins} (hc : c.2 (a + 1) C.length = c1) (ht : t.2 (a + 1 + c.1) (C ++ c1 ++ [(2, 0, 0, noT)]).length = t1) :
    fillAt (C ++ c1 ++ [(2, 0, 0, noT)] ++ t1) (C ++ c1).length ((C ++ c1 ++ [(2, 0, 0, noT)] ++ t1).length : Nat) = C ++ if2G c t a C.length := by
  have hl : (C ++ c1 ++ [((2 : Int), (0 : Int), (0 : Int), noT)]).length = C.length + c1.length + 1 := by simp; omega
  rw [hl] at ht
  have hn : ((C ++ c1 ++ [(2, 0, 0, noT)] ++ t1).length : Nat) = C.length + c1.length + 1 + t1.length := by simp; omega
  rw [hn, fill_cut (C ++ c1) (2, 0, 0, noT) t1 (by simp) rfl]
  unfold if2G
  rw [hc, ht]
  simp only [List.append_assoc]
/-- The code of an if with an else, ahead of the else. -/
def if3A (C c1 t1 : List Ins) : List Ins := C ++ c1 ++ (2, ((C.length + c1.length + 1 + t1.length + 1 : Nat) : Int), 0, noT) :: (t1 ++ [(1, 0, 0, noT)])
theorem if3A_len (C c1 t1 : List Ins) : (if3A C c1 t1).length = C.length + c1.length + 1 + t1.length + 1 := by unfold if3A; simp; omega
theorem if3_fill (C c1 t1 : List Ins) : fillAt (C ++ c1 ++ [(2, 0, 0, noT)] ++ t1 ++ [(1, 0, 0, noT)]) (C ++ c1).length ((C ++ c1 ++ [(2, 0, 0, noT)] ++ t1 ++ [(1, 0, 0, noT)]).length : Nat) = if3A C c1 t1 := by
  have hn : ((C ++ c1 ++ [(2, 0, 0, noT)] ++ t1 ++ [(1, 0, 0, noT)]).length : Nat) = C.length + c1.length + 1 + t1.length + 1 := by simp; omega
  rw [hn, fill_cut (C ++ c1) (2, 0, 0, noT) (t1 ++ [(1, 0, 0, noT)]) (by simp) rfl]
  unfold if3A
  simp only [List.append_assoc]
theorem if3_eq {c t e : Nat × Gen} {a : Nat} {C c1 t1 e1 : List Ins} (hc : c.2 (a + 1) C.length = c1) (ht : t.2 (a + 1 + c.1) (C ++ c1 ++ [(2, 0, 0, noT)]).length = t1) (he : e.2 (a + 1 + c.1 + t.1) (if3A C c1 t1).length = e1) :
    fillAt (if3A C c1 t1 ++ e1) (C ++ c1 ++ [(2, 0, 0, noT)] ++ t1).length ((if3A C c1 t1 ++ e1).length : Nat) = C ++ if3G c t e a C.length := by
  have hl : (C ++ c1 ++ [((2 : Int), (0 : Int), (0 : Int), noT)]).length = C.length + c1.length + 1 := by simp; omega
  rw [hl] at ht
  have hn : ((if3A C c1 t1 ++ e1).length : Nat) = C.length + c1.length + 1 + t1.length + 1 + e1.length := by rw [List.length_append, if3A_len]
  rw [if3A_len] at he
  rw [hn, fill_cut (C ++ c1 ++ (2, ((C.length + c1.length + 1 + t1.length + 1 : Nat) : Int), 0, noT) :: t1) (1, 0, 0, noT) e1 (by simp [if3A]) (by simp)]
  unfold if3G
  rw [hc, ht, he]
  simp only [List.append_assoc, List.cons_append]
/-- A fork's code, ahead of its block. -/
def forkA (C : List Ins) : List Ins := C ++ [(53, ((C.length + 2 : Nat) : Int), 0, noT), (1, 0, 0, noT)]
theorem fork_fill (C : List Ins) : fillAt (C ++ [(53, 0, 0, noT)] ++ [(1, 0, 0, noT)]) C.length ((C ++ [(53, 0, 0, noT)] ++ [(1, 0, 0, noT)]).length : Nat) = forkA C := by
  rw [fill_cut C (53, 0, 0, noT) [(1, 0, 0, noT)] (by simp) rfl]
  unfold forkA
  simp only [List.length_append, List.length_cons, List.length_nil]
theorem forkA_len (C : List Ins) : (forkA C).length = C.length + 2 := by simp [forkA]
theorem fork_eq {b : Nat × Gen} {a : Nat} {C b1 : List Ins} (hb : b.2 (a + 1) (forkA C).length = b1) :
    fillAt (forkA C ++ b1 ++ [(28, 0, 0, noT)]) (C ++ [(53, 0, 0, noT)]).length ((forkA C ++ b1 ++ [(28, 0, 0, noT)]).length : Nat) = C ++ forkG b a C.length := by
  rw [forkA_len] at hb
  have hn : ((forkA C ++ b1 ++ [(28, 0, 0, noT)]).length : Nat) = C.length + 2 + b1.length + 1 := by simp [forkA]; omega
  rw [hn, fill_cut (C ++ [(53, ((C.length + 2 : Nat) : Int), 0, noT)]) (1, 0, 0, noT) (b1 ++ [(28, 0, 0, noT)]) (by simp [forkA]) (by simp)]
  unfold forkG
  rw [hb]
  simp only [List.append_assoc, List.cons_append, List.nil_append]
end Go.Proofs.Ytkpgnopimnamfaa
