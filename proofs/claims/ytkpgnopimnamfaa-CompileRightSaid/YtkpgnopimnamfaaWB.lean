/- instr.walk.through. -/
import Derived.Test.YtkpgnopimnamfaaWA
namespace Go.Proofs.Ytkpgnopimnamfaa
open Go.ChangeShapes Go.WideShapes Go.ChangeAt Go.RowKit
set_option maxRecDepth 100000 in
set_option maxHeartbeats 2000000 in
theorem through_plain (w : World) (B hw hp : Nat) (ca : Option Addr) (cc n H : Nat) (Dp : Nat → Int) (D : List Int) (X : List Th) (next : Int) (hk : WkAt w B hw hp ca cc n H D X next) (hB : B ≤ H) (hBh : B ≤ hp) (hI : Inv n Dp D X next) (hn5 : n ≤ 8500)
    (C : List Ins) (hCn : C.length = n) (hC : CodeAt w ca C) (at_ : Nat) (op A num : Int) (text : ByteArray) (hx : C[at_]? = some (op, A, num, text)) (d : Int) (hd : Dp at_ = d) (hd0 : 0 ≤ d) (hd5 : d ≤ 9000) (hval : validOp op) (hmany : manyOf op = false) (hends : endsOf op = false) (ha : (aOf op == 116) = false) (hop : ¬ op = 53 ∧ ¬ op = 3 ∧ ¬ op = 4 ∧ ¬ op = 1) (ht0 : 0 ≤ takesOf op) (ht2 : takesOf op ≤ 2) (hl0 : 0 ≤ leaveOf op) (hl2 : leaveOf op ≤ 1) (htd : takesOf op ≤ d) (hn1 : at_ + 1 < n) (hnd : Dp (at_ + 1) = d - takesOf op + leaveOf op) :
    Calls Try.prog 38 #[.pointer (some ⟨hw, 0, none⟩), .int .i64 at_, .int .i64 d] w (ThPost w B hw hp ca cc n H Dp D X) := by
  obtain ⟨o1, o2, o3, o4⟩ := hop
  have HND := Lib.hid hnd; clear hnd
  have htd2 : ¬ d < takesOf op := by omega
  obtain ⟨word, hword, hkind⟩ := kind_any op hval
  unfold kindV at hkind
  have HKIND := Lib.hid hkind; clear hkind hword
  obtain ⟨g, rfl, c0, c1, c2, c3⟩ := hC at_ _ hx
  dsimp only at c0 c1 c2 c3
  have hat : at_ < n := by rw [← hCn]; exact (List.getElem?_eq_some_iff.1 hx).1
  have hati : (at_ : Int) < n := by omega
  have hat5 : at_ ≤ 8500 := by omega
  have HK := Lib.hid hk; have HI := Lib.hid hI; have HD := Lib.hid hd; have HN5 := Lib.hid hn5
  obtain ⟨da, dc, ao, cap, L, hW, _, hh⟩ := hk
  have p0 : w.cell? ⟨hw, 0, none⟩ = some (.slice (some ⟨g, 0, none⟩) n cc) := (cell_block hW).trans rfl
  have hwl : hw < w.heap.size := (Array.getElem?_eq_some_iff.1 hW).1
  have hpl : hp < w.heap.size := (Array.getElem?_eq_some_iff.1 hh.1).1
  have HBb : Hid (B ≤ w.heap.size) := Lib.hid (by omega)
  clear hW hh hC hCn hx hd hI
  go_enter Try.func38, Try.ntmps38
  go_wp2_with fail
  refine (HKIND.out _).mono ?_
  rintro e w1 ⟨rfl, hb⟩
  have XB := (hb.block w.heap.size (by simp)).trans (MapKept.heap_alloc w _).1
  have x0 : w1.cell? ⟨w.heap.size, 0, none⟩ = some (.int .u8 op) := (cell_block XB).trans rfl
  have x1 : w1.cell? ⟨w.heap.size, 1, none⟩ = some (.int .i64 A) := (cell_block XB).trans rfl
  have hl1 : w.heap.size < w1.heap.size := by have := hb.size; simp at this; omega
  have BB : Hid (Below w.heap.size w w1) := Lib.hid (((Below.refl _ w).alloc (Nat.le_refl _) _).trans (hb.mono (by simp)))
  have XBB := Lib.hid XB
  clear hb XB c0 c1 c2 c3 p0
  go_wp2_with fail
  rw [show ((at_ : Int) + 1) = ((at_ + 1 : Nat) : Int) from by omega]
  refine (meet_inv _ B hw hp _ cc n H Dp D X next (HK.out.below (BB.out.alloc (Nat.le_of_lt hl1) _)) hB hBh HI.out HN5.out (at_+1) hn1 _ HND.out (by omega)).mono ?_
  rintro e w9 ⟨rfl, hf, D', X', nx', k', i', m'⟩
  have HF := Lib.hid ((FrW.of_below (BB.out.alloc (Nat.le_of_lt hl1) _) HBb.out).trans hf)
  have K9 := Lib.hid k'; have I9 := Lib.hid i'; have M9 := Lib.hid m'
  clear hf k' i' m'
  go_wp2_with fail
  go_ret
  exact ⟨rfl, HF.out, D', X', nx', K9.out, I9.out, M9.out⟩
set_option maxRecDepth 100000 in
set_option maxHeartbeats 2000000 in
theorem through_many (w : World) (B hw hp : Nat) (ca : Option Addr) (cc n H : Nat) (Dp : Nat → Int) (D : List Int) (X : List Th) (next : Int) (hk : WkAt w B hw hp ca cc n H D X next) (hB : B ≤ H) (hBh : B ≤ hp) (hI : Inv n Dp D X next) (hn5 : n ≤ 8500)
    (C : List Ins) (hCn : C.length = n) (hC : CodeAt w ca C) (at_ : Nat) (op A num : Int) (text : ByteArray) (hx : C[at_]? = some (op, A, num, text)) (d : Int) (hd : Dp at_ = d) (hd0 : 0 ≤ d) (hd5 : d ≤ 9000) (hval : validOp op) (hmany : manyOf op = true) (hends : endsOf op = false) (ha : (aOf op == 116) = false) (hop : ¬ op = 53 ∧ ¬ op = 3 ∧ ¬ op = 4 ∧ ¬ op = 1) (ht : takesOf op = 0) (hl : leaveOf op = 1) (hA0 : 0 ≤ A) (htd : A ≤ d) (hn1 : at_ + 1 < n) (hnd : Dp (at_ + 1) = d - A + 1) :
    Calls Try.prog 38 #[.pointer (some ⟨hw, 0, none⟩), .int .i64 at_, .int .i64 d] w (ThPost w B hw hp ca cc n H Dp D X) := by
  obtain ⟨o1, o2, o3, o4⟩ := hop
  have HND := Lib.hid hnd; clear hnd
  have htd2 : ¬ d < A := by omega
  obtain ⟨word, hword, hkind⟩ := kind_any op hval
  unfold kindV at hkind
  have HKIND := Lib.hid hkind; clear hkind hword
  obtain ⟨g, rfl, c0, c1, c2, c3⟩ := hC at_ _ hx
  dsimp only at c0 c1 c2 c3
  have hat : at_ < n := by rw [← hCn]; exact (List.getElem?_eq_some_iff.1 hx).1
  have hati : (at_ : Int) < n := by omega
  have hat5 : at_ ≤ 8500 := by omega
  have HK := Lib.hid hk; have HI := Lib.hid hI; have HD := Lib.hid hd; have HN5 := Lib.hid hn5
  obtain ⟨da, dc, ao, cap, L, hW, _, hh⟩ := hk
  have p0 : w.cell? ⟨hw, 0, none⟩ = some (.slice (some ⟨g, 0, none⟩) n cc) := (cell_block hW).trans rfl
  have hwl : hw < w.heap.size := (Array.getElem?_eq_some_iff.1 hW).1
  have hpl : hp < w.heap.size := (Array.getElem?_eq_some_iff.1 hh.1).1
  have HBb : Hid (B ≤ w.heap.size) := Lib.hid (by omega)
  clear hW hh hC hCn hx hd hI
  go_enter Try.func38, Try.ntmps38
  go_wp2_with fail
  refine (HKIND.out _).mono ?_
  rintro e w1 ⟨rfl, hb⟩
  rw [ht, hl]
  have XB := (hb.block w.heap.size (by simp)).trans (MapKept.heap_alloc w _).1
  have x0 : w1.cell? ⟨w.heap.size, 0, none⟩ = some (.int .u8 op) := (cell_block XB).trans rfl
  have x1 : w1.cell? ⟨w.heap.size, 1, none⟩ = some (.int .i64 A) := (cell_block XB).trans rfl
  have hl1 : w.heap.size < w1.heap.size := by have := hb.size; simp at this; omega
  have BB : Hid (Below w.heap.size w w1) := Lib.hid (((Below.refl _ w).alloc (Nat.le_refl _) _).trans (hb.mono (by simp)))
  have XBB := Lib.hid XB
  clear hb XB c0 c1 c2 c3 p0
  go_wp2_with fail
  rw [show ((at_ : Int) + 1) = ((at_ + 1 : Nat) : Int) from by omega]
  refine (meet_inv _ B hw hp _ cc n H Dp D X next (HK.out.below (BB.out.alloc (Nat.le_of_lt hl1) _)) hB hBh HI.out HN5.out (at_+1) hn1 _ HND.out (by omega)).mono ?_
  rintro e w9 ⟨rfl, hf, D', X', nx', k', i', m'⟩
  have HF := Lib.hid ((FrW.of_below (BB.out.alloc (Nat.le_of_lt hl1) _) HBb.out).trans hf)
  have K9 := Lib.hid k'; have I9 := Lib.hid i'; have M9 := Lib.hid m'
  clear hf k' i' m'
  go_wp2_with fail
  go_ret
  exact ⟨rfl, HF.out, D', X', nx', K9.out, I9.out, M9.out⟩
set_option maxRecDepth 100000 in
set_option maxHeartbeats 2000000 in
theorem through_ends (w : World) (B hw hp : Nat) (ca : Option Addr) (cc n H : Nat) (Dp : Nat → Int) (D : List Int) (X : List Th) (next : Int) (hk : WkAt w B hw hp ca cc n H D X next) (hBh : B ≤ hp) (hI : Inv n Dp D X next) (hn5 : n ≤ 8500)
    (C : List Ins) (hCn : C.length = n) (hC : CodeAt w ca C) (at_ : Nat) (op A num : Int) (text : ByteArray) (hx : C[at_]? = some (op, A, num, text)) (d : Int) (hd : Dp at_ = d) (hd0 : 0 ≤ d) (hd5 : d ≤ 9000) (hval : validOp op) (hmany : manyOf op = false) (hends : endsOf op = true) (htd : d = takesOf op) :
    Calls Try.prog 38 #[.pointer (some ⟨hw, 0, none⟩), .int .i64 at_, .int .i64 d] w (ThPost w B hw hp ca cc n H Dp D X) := by
  subst htd
  obtain ⟨word, hword, hkind⟩ := kind_any op hval
  unfold kindV at hkind
  have HKIND := Lib.hid hkind; clear hkind hword
  obtain ⟨g, rfl, c0, c1, c2, c3⟩ := hC at_ _ hx
  dsimp only at c0 c1 c2 c3
  have hat : at_ < n := by rw [← hCn]; exact (List.getElem?_eq_some_iff.1 hx).1
  have hati : (at_ : Int) < n := by omega
  have hat5 : at_ ≤ 8500 := by omega
  have HK := Lib.hid hk; have HI := Lib.hid hI; have HD := Lib.hid hd; have HN5 := Lib.hid hn5
  obtain ⟨da, dc, ao, cap, L, hW, _, hh⟩ := hk
  have p0 : w.cell? ⟨hw, 0, none⟩ = some (.slice (some ⟨g, 0, none⟩) n cc) := (cell_block hW).trans rfl
  have hwl : hw < w.heap.size := (Array.getElem?_eq_some_iff.1 hW).1
  have hpl : hp < w.heap.size := (Array.getElem?_eq_some_iff.1 hh.1).1
  have HBb : Hid (B ≤ w.heap.size) := Lib.hid (by omega)
  clear hW hh hC hCn hx hd hI
  go_enter Try.func38, Try.ntmps38
  go_wp2_with fail
  refine (HKIND.out _).mono ?_
  rintro e w1 ⟨rfl, hb⟩
  have XB := (hb.block w.heap.size (by simp)).trans (MapKept.heap_alloc w _).1
  have x0 : w1.cell? ⟨w.heap.size, 0, none⟩ = some (.int .u8 op) := (cell_block XB).trans rfl
  have x1 : w1.cell? ⟨w.heap.size, 1, none⟩ = some (.int .i64 A) := (cell_block XB).trans rfl
  have hl1 : w.heap.size < w1.heap.size := by have := hb.size; simp at this; omega
  have BB : Hid (Below w.heap.size w w1) := Lib.hid (((Below.refl _ w).alloc (Nat.le_refl _) _).trans (hb.mono (by simp)))
  have XBB := Lib.hid XB
  clear hb XB c0 c1 c2 c3 p0
  go_wp2_with fail
  go_ret
  exact ⟨rfl, FrW.of_below (BB.out.alloc (Nat.le_of_lt hl1) _) HBb.out, D, X, next, HK.out.below (BB.out.alloc (Nat.le_of_lt hl1) _), HI.out, Nat.le_refl _⟩
end Go.Proofs.Ytkpgnopimnamfaa
namespace Go.Proofs.Ytkpgnopimnamfaa
open Go.ChangeShapes Go.WideShapes Go.ChangeAt Go.RowKit
set_option maxRecDepth 100000 in
set_option maxHeartbeats 2000000 in
theorem through_jump (w : World) (B hw hp : Nat) (ca : Option Addr) (cc n H : Nat) (Dp : Nat → Int) (D : List Int) (X : List Th) (next : Int) (hk : WkAt w B hw hp ca cc n H D X next) (hB : B ≤ H) (hBh : B ≤ hp) (hI : Inv n Dp D X next) (hn5 : n ≤ 8500)
    (C : List Ins) (hCn : C.length = n) (hC : CodeAt w ca C) (at_ : Nat) (A num : Int) (text : ByteArray) (hx : C[at_]? = some (1, A, num, text)) (d : Int) (hd : Dp at_ = d) (hd0 : 0 ≤ d) (hd5 : d ≤ 9000) (AA : Nat) (hAA : A = AA) (hA : AA < n) (hth : Dp AA = d)  :
    Calls Try.prog 38 #[.pointer (some ⟨hw, 0, none⟩), .int .i64 at_, .int .i64 d] w (ThPost w B hw hp ca cc n H Dp D X) := by
  subst hAA
  have HTH := Lib.hid hth; clear hth
  obtain ⟨word, hword, hkind⟩ := kind_any 1 (by unfold validOp; omega)
  unfold kindV at hkind
  have a0 : aOf 1 = 116 := by decide
  have a1 : numOf 1 = false := by decide
  have a2 : textOf 1 = 0 := by decide
  have a3 : takesOf 1 = 0 := by decide
  have a4 : leaveOf 1 = 0 := by decide
  have a5 : manyOf 1 = false := by decide
  have a6 : endsOf 1 = false := by decide
  simp only [a0, a1, a2, a3, a4, a5, a6] at hkind
  clear a0 a1 a2 a3 a4 a5 a6
  have HKIND := Lib.hid hkind; clear hkind hword
  obtain ⟨g, rfl, c0, c1, c2, c3⟩ := hC at_ _ hx
  dsimp only at c0 c1 c2 c3
  have hat : at_ < n := by rw [← hCn]; exact (List.getElem?_eq_some_iff.1 hx).1
  have hati : (at_ : Int) < n := by omega
  have hat5 : at_ ≤ 8500 := by omega
  have HK := Lib.hid hk; have HI := Lib.hid hI; have HD := Lib.hid hd; have HN5 := Lib.hid hn5
  obtain ⟨da, dc, ao, cap, L, hW, _, hh⟩ := hk
  have p0 : w.cell? ⟨hw, 0, none⟩ = some (.slice (some ⟨g, 0, none⟩) n cc) := (cell_block hW).trans rfl
  have hwl : hw < w.heap.size := (Array.getElem?_eq_some_iff.1 hW).1
  have hpl : hp < w.heap.size := (Array.getElem?_eq_some_iff.1 hh.1).1
  have HBb : Hid (B ≤ w.heap.size) := Lib.hid (by omega)
  clear hW hh hC hCn hx hd hI
  go_enter Try.func38, Try.ntmps38
  go_wp2_with fail
  refine (HKIND.out _).mono ?_
  rintro e w1 ⟨rfl, hb⟩
  have XB := (hb.block w.heap.size (by simp)).trans (MapKept.heap_alloc w _).1
  have x0 : w1.cell? ⟨w.heap.size, 0, none⟩ = some (.int .u8 1) := (cell_block XB).trans rfl
  have x1 : w1.cell? ⟨w.heap.size, 1, none⟩ = some (.int .i64 (AA : Int)) := (cell_block XB).trans rfl
  have hl1 : w.heap.size < w1.heap.size := by have := hb.size; simp at this; omega
  have BB : Hid (Below w.heap.size w w1) := Lib.hid (((Below.refl _ w).alloc (Nat.le_refl _) _).trans (hb.mono (by simp)))
  have XBB := Lib.hid XB
  clear hb XB c0 c1 c2 c3 p0
  go_wp2_with fail
  refine (meet_inv _ B hw hp _ cc n H Dp D X next (HK.out.below (BB.out.alloc (Nat.le_of_lt hl1) _)) hB hBh HI.out HN5.out AA hA _ HTH.out (by omega)).mono ?_
  rintro e w9 ⟨rfl, hf, D', X', nx', k', i', m'⟩
  have XB9 := Lib.hid (hf.2 _ _ _ _ (((Below.refl _ w1).alloc (Nat.le_refl _) _).block _ hl1 |>.trans XBB.out) (by omega) (by decide) (by decide))
  have x0 : w9.cell? ⟨w.heap.size, 0, none⟩ = some (.int .u8 1) := (cell_block XB9.out).trans rfl
  have HF := Lib.hid ((FrW.of_below (BB.out.alloc (Nat.le_of_lt hl1) _) HBb.out).trans hf)
  have K9 := Lib.hid k'; have I9 := Lib.hid i'; have M9 := Lib.hid m'
  clear hf k' i' m' x1
  go_wp2_with fail
  go_ret
  exact ⟨rfl, HF.out, D', X', nx', K9.out, I9.out, M9.out⟩
set_option maxRecDepth 100000 in
set_option maxHeartbeats 2000000 in
theorem through_branch (w : World) (B hw hp : Nat) (ca : Option Addr) (cc n H : Nat) (Dp : Nat → Int) (D : List Int) (X : List Th) (next : Int) (hk : WkAt w B hw hp ca cc n H D X next) (hB : B ≤ H) (hBh : B ≤ hp) (hI : Inv n Dp D X next) (hn5 : n ≤ 8500)
    (C : List Ins) (hCn : C.length = n) (hC : CodeAt w ca C) (at_ : Nat) (A num : Int) (text : ByteArray) (hx : C[at_]? = some (2, A, num, text)) (d : Int) (hd : Dp at_ = d) (hd0 : 0 ≤ d) (hd5 : d ≤ 9000) (AA : Nat) (hAA : A = AA) (hA : AA < n) (hth : Dp AA = d - 1) (htd : 1 ≤ d) (hn1 : at_ + 1 < n) (hnd : Dp (at_ + 1) = d - 1) :
    Calls Try.prog 38 #[.pointer (some ⟨hw, 0, none⟩), .int .i64 at_, .int .i64 d] w (ThPost w B hw hp ca cc n H Dp D X) := by
  subst hAA
  have HTH := Lib.hid hth; clear hth
  have htd2 : ¬ d < 1 := by omega
  have HND := Lib.hid hnd; clear hnd
  obtain ⟨word, hword, hkind⟩ := kind_any 2 (by unfold validOp; omega)
  unfold kindV at hkind
  have a0 : aOf 2 = 116 := by decide
  have a1 : numOf 2 = false := by decide
  have a2 : textOf 2 = 0 := by decide
  have a3 : takesOf 2 = 1 := by decide
  have a4 : leaveOf 2 = 0 := by decide
  have a5 : manyOf 2 = false := by decide
  have a6 : endsOf 2 = false := by decide
  simp only [a0, a1, a2, a3, a4, a5, a6] at hkind
  clear a0 a1 a2 a3 a4 a5 a6
  have HKIND := Lib.hid hkind; clear hkind hword
  obtain ⟨g, rfl, c0, c1, c2, c3⟩ := hC at_ _ hx
  dsimp only at c0 c1 c2 c3
  have hat : at_ < n := by rw [← hCn]; exact (List.getElem?_eq_some_iff.1 hx).1
  have hati : (at_ : Int) < n := by omega
  have hat5 : at_ ≤ 8500 := by omega
  have HK := Lib.hid hk; have HI := Lib.hid hI; have HD := Lib.hid hd; have HN5 := Lib.hid hn5
  obtain ⟨da, dc, ao, cap, L, hW, _, hh⟩ := hk
  have p0 : w.cell? ⟨hw, 0, none⟩ = some (.slice (some ⟨g, 0, none⟩) n cc) := (cell_block hW).trans rfl
  have hwl : hw < w.heap.size := (Array.getElem?_eq_some_iff.1 hW).1
  have hpl : hp < w.heap.size := (Array.getElem?_eq_some_iff.1 hh.1).1
  have HBb : Hid (B ≤ w.heap.size) := Lib.hid (by omega)
  clear hW hh hC hCn hx hd hI
  go_enter Try.func38, Try.ntmps38
  go_wp2_with fail
  refine (HKIND.out _).mono ?_
  rintro e w1 ⟨rfl, hb⟩
  have XB := (hb.block w.heap.size (by simp)).trans (MapKept.heap_alloc w _).1
  have x0 : w1.cell? ⟨w.heap.size, 0, none⟩ = some (.int .u8 2) := (cell_block XB).trans rfl
  have x1 : w1.cell? ⟨w.heap.size, 1, none⟩ = some (.int .i64 (AA : Int)) := (cell_block XB).trans rfl
  have hl1 : w.heap.size < w1.heap.size := by have := hb.size; simp at this; omega
  have BB : Hid (Below w.heap.size w w1) := Lib.hid (((Below.refl _ w).alloc (Nat.le_refl _) _).trans (hb.mono (by simp)))
  have XBB := Lib.hid XB
  clear hb XB c0 c1 c2 c3 p0
  go_wp2_with fail
  refine (meet_inv _ B hw hp _ cc n H Dp D X next (HK.out.below (BB.out.alloc (Nat.le_of_lt hl1) _)) hB hBh HI.out HN5.out AA hA _ HTH.out (by omega)).mono ?_
  rintro e w9 ⟨rfl, hf, D', X', nx', k', i', m'⟩
  have XB9 := Lib.hid (hf.2 _ _ _ _ (((Below.refl _ w1).alloc (Nat.le_refl _) _).block _ hl1 |>.trans XBB.out) (by omega) (by decide) (by decide))
  have x0 : w9.cell? ⟨w.heap.size, 0, none⟩ = some (.int .u8 2) := (cell_block XB9.out).trans rfl
  have HF := Lib.hid ((FrW.of_below (BB.out.alloc (Nat.le_of_lt hl1) _) HBb.out).trans hf)
  have K9 := Lib.hid k'; have I9 := Lib.hid i'; have M9 := Lib.hid m'
  clear hf k' i' m' x1
  go_wp2_with fail
  rw [show ((at_ : Int) + 1) = ((at_ + 1 : Nat) : Int) from by omega]
  refine (meet_inv _ B hw hp _ cc n H Dp D' X' nx' K9.out hB hBh I9.out HN5.out (at_+1) hn1 _ HND.out (by omega)).mono ?_
  rintro e wz ⟨rfl, hf, D'', X'', nx'', k', i', m'⟩
  have HFz := Lib.hid (HF.out.trans hf)
  have Kz := Lib.hid k'; have Iz := Lib.hid i'; have Mz := Lib.hid (Nat.le_trans m' M9.out)
  clear hf k' i' m'
  go_wp2_with fail
  go_ret
  exact ⟨rfl, HFz.out, D'', X'', nx'', Kz.out, Iz.out, Mz.out⟩
set_option maxRecDepth 100000 in
set_option maxHeartbeats 2000000 in
theorem through_or (w : World) (B hw hp : Nat) (ca : Option Addr) (cc n H : Nat) (Dp : Nat → Int) (D : List Int) (X : List Th) (next : Int) (hk : WkAt w B hw hp ca cc n H D X next) (hB : B ≤ H) (hBh : B ≤ hp) (hI : Inv n Dp D X next) (hn5 : n ≤ 8500)
    (C : List Ins) (hCn : C.length = n) (hC : CodeAt w ca C) (at_ : Nat) (A num : Int) (text : ByteArray) (hx : C[at_]? = some (3, A, num, text)) (d : Int) (hd : Dp at_ = d) (hd0 : 0 ≤ d) (hd5 : d ≤ 9000) (AA : Nat) (hAA : A = AA) (hA : AA < n) (hth : Dp AA = d) (htd : 1 ≤ d) (hn1 : at_ + 1 < n) (hnd : Dp (at_ + 1) = d - 1) :
    Calls Try.prog 38 #[.pointer (some ⟨hw, 0, none⟩), .int .i64 at_, .int .i64 d] w (ThPost w B hw hp ca cc n H Dp D X) := by
  subst hAA
  have HTH := Lib.hid hth; clear hth
  have htd2 : ¬ d < 1 := by omega
  have HND := Lib.hid hnd; clear hnd
  obtain ⟨word, hword, hkind⟩ := kind_any 3 (by unfold validOp; omega)
  unfold kindV at hkind
  have a0 : aOf 3 = 116 := by decide
  have a1 : numOf 3 = false := by decide
  have a2 : textOf 3 = 0 := by decide
  have a3 : takesOf 3 = 1 := by decide
  have a4 : leaveOf 3 = 0 := by decide
  have a5 : manyOf 3 = false := by decide
  have a6 : endsOf 3 = false := by decide
  simp only [a0, a1, a2, a3, a4, a5, a6] at hkind
  clear a0 a1 a2 a3 a4 a5 a6
  have HKIND := Lib.hid hkind; clear hkind hword
  obtain ⟨g, rfl, c0, c1, c2, c3⟩ := hC at_ _ hx
  dsimp only at c0 c1 c2 c3
  have hat : at_ < n := by rw [← hCn]; exact (List.getElem?_eq_some_iff.1 hx).1
  have hati : (at_ : Int) < n := by omega
  have hat5 : at_ ≤ 8500 := by omega
  have HK := Lib.hid hk; have HI := Lib.hid hI; have HD := Lib.hid hd; have HN5 := Lib.hid hn5
  obtain ⟨da, dc, ao, cap, L, hW, _, hh⟩ := hk
  have p0 : w.cell? ⟨hw, 0, none⟩ = some (.slice (some ⟨g, 0, none⟩) n cc) := (cell_block hW).trans rfl
  have hwl : hw < w.heap.size := (Array.getElem?_eq_some_iff.1 hW).1
  have hpl : hp < w.heap.size := (Array.getElem?_eq_some_iff.1 hh.1).1
  have HBb : Hid (B ≤ w.heap.size) := Lib.hid (by omega)
  clear hW hh hC hCn hx hd hI
  go_enter Try.func38, Try.ntmps38
  go_wp2_with fail
  refine (HKIND.out _).mono ?_
  rintro e w1 ⟨rfl, hb⟩
  have XB := (hb.block w.heap.size (by simp)).trans (MapKept.heap_alloc w _).1
  have x0 : w1.cell? ⟨w.heap.size, 0, none⟩ = some (.int .u8 3) := (cell_block XB).trans rfl
  have x1 : w1.cell? ⟨w.heap.size, 1, none⟩ = some (.int .i64 (AA : Int)) := (cell_block XB).trans rfl
  have hl1 : w.heap.size < w1.heap.size := by have := hb.size; simp at this; omega
  have BB : Hid (Below w.heap.size w w1) := Lib.hid (((Below.refl _ w).alloc (Nat.le_refl _) _).trans (hb.mono (by simp)))
  have XBB := Lib.hid XB
  clear hb XB c0 c1 c2 c3 p0
  go_wp2_with fail
  refine (meet_inv _ B hw hp _ cc n H Dp D X next (HK.out.below (BB.out.alloc (Nat.le_of_lt hl1) _)) hB hBh HI.out HN5.out AA hA _ HTH.out (by omega)).mono ?_
  rintro e w9 ⟨rfl, hf, D', X', nx', k', i', m'⟩
  have XB9 := Lib.hid (hf.2 _ _ _ _ (((Below.refl _ w1).alloc (Nat.le_refl _) _).block _ hl1 |>.trans XBB.out) (by omega) (by decide) (by decide))
  have x0 : w9.cell? ⟨w.heap.size, 0, none⟩ = some (.int .u8 3) := (cell_block XB9.out).trans rfl
  have HF := Lib.hid ((FrW.of_below (BB.out.alloc (Nat.le_of_lt hl1) _) HBb.out).trans hf)
  have K9 := Lib.hid k'; have I9 := Lib.hid i'; have M9 := Lib.hid m'
  clear hf k' i' m' x1
  go_wp2_with fail
  rw [show ((at_ : Int) + 1) = ((at_ + 1 : Nat) : Int) from by omega]
  refine (meet_inv _ B hw hp _ cc n H Dp D' X' nx' K9.out hB hBh I9.out HN5.out (at_+1) hn1 _ HND.out (by omega)).mono ?_
  rintro e wz ⟨rfl, hf, D'', X'', nx'', k', i', m'⟩
  have HFz := Lib.hid (HF.out.trans hf)
  have Kz := Lib.hid k'; have Iz := Lib.hid i'; have Mz := Lib.hid (Nat.le_trans m' M9.out)
  clear hf k' i' m'
  go_wp2_with fail
  go_ret
  exact ⟨rfl, HFz.out, D'', X'', nx'', Kz.out, Iz.out, Mz.out⟩
set_option maxRecDepth 100000 in
set_option maxHeartbeats 2000000 in
theorem through_and (w : World) (B hw hp : Nat) (ca : Option Addr) (cc n H : Nat) (Dp : Nat → Int) (D : List Int) (X : List Th) (next : Int) (hk : WkAt w B hw hp ca cc n H D X next) (hB : B ≤ H) (hBh : B ≤ hp) (hI : Inv n Dp D X next) (hn5 : n ≤ 8500)
    (C : List Ins) (hCn : C.length = n) (hC : CodeAt w ca C) (at_ : Nat) (A num : Int) (text : ByteArray) (hx : C[at_]? = some (4, A, num, text)) (d : Int) (hd : Dp at_ = d) (hd0 : 0 ≤ d) (hd5 : d ≤ 9000) (AA : Nat) (hAA : A = AA) (hA : AA < n) (hth : Dp AA = d) (htd : 1 ≤ d) (hn1 : at_ + 1 < n) (hnd : Dp (at_ + 1) = d - 1) :
    Calls Try.prog 38 #[.pointer (some ⟨hw, 0, none⟩), .int .i64 at_, .int .i64 d] w (ThPost w B hw hp ca cc n H Dp D X) := by
  subst hAA
  have HTH := Lib.hid hth; clear hth
  have htd2 : ¬ d < 1 := by omega
  have HND := Lib.hid hnd; clear hnd
  obtain ⟨word, hword, hkind⟩ := kind_any 4 (by unfold validOp; omega)
  unfold kindV at hkind
  have a0 : aOf 4 = 116 := by decide
  have a1 : numOf 4 = false := by decide
  have a2 : textOf 4 = 0 := by decide
  have a3 : takesOf 4 = 1 := by decide
  have a4 : leaveOf 4 = 0 := by decide
  have a5 : manyOf 4 = false := by decide
  have a6 : endsOf 4 = false := by decide
  simp only [a0, a1, a2, a3, a4, a5, a6] at hkind
  clear a0 a1 a2 a3 a4 a5 a6
  have HKIND := Lib.hid hkind; clear hkind hword
  obtain ⟨g, rfl, c0, c1, c2, c3⟩ := hC at_ _ hx
  dsimp only at c0 c1 c2 c3
  have hat : at_ < n := by rw [← hCn]; exact (List.getElem?_eq_some_iff.1 hx).1
  have hati : (at_ : Int) < n := by omega
  have hat5 : at_ ≤ 8500 := by omega
  have HK := Lib.hid hk; have HI := Lib.hid hI; have HD := Lib.hid hd; have HN5 := Lib.hid hn5
  obtain ⟨da, dc, ao, cap, L, hW, _, hh⟩ := hk
  have p0 : w.cell? ⟨hw, 0, none⟩ = some (.slice (some ⟨g, 0, none⟩) n cc) := (cell_block hW).trans rfl
  have hwl : hw < w.heap.size := (Array.getElem?_eq_some_iff.1 hW).1
  have hpl : hp < w.heap.size := (Array.getElem?_eq_some_iff.1 hh.1).1
  have HBb : Hid (B ≤ w.heap.size) := Lib.hid (by omega)
  clear hW hh hC hCn hx hd hI
  go_enter Try.func38, Try.ntmps38
  go_wp2_with fail
  refine (HKIND.out _).mono ?_
  rintro e w1 ⟨rfl, hb⟩
  have XB := (hb.block w.heap.size (by simp)).trans (MapKept.heap_alloc w _).1
  have x0 : w1.cell? ⟨w.heap.size, 0, none⟩ = some (.int .u8 4) := (cell_block XB).trans rfl
  have x1 : w1.cell? ⟨w.heap.size, 1, none⟩ = some (.int .i64 (AA : Int)) := (cell_block XB).trans rfl
  have hl1 : w.heap.size < w1.heap.size := by have := hb.size; simp at this; omega
  have BB : Hid (Below w.heap.size w w1) := Lib.hid (((Below.refl _ w).alloc (Nat.le_refl _) _).trans (hb.mono (by simp)))
  have XBB := Lib.hid XB
  clear hb XB c0 c1 c2 c3 p0
  go_wp2_with fail
  refine (meet_inv _ B hw hp _ cc n H Dp D X next (HK.out.below (BB.out.alloc (Nat.le_of_lt hl1) _)) hB hBh HI.out HN5.out AA hA _ HTH.out (by omega)).mono ?_
  rintro e w9 ⟨rfl, hf, D', X', nx', k', i', m'⟩
  have XB9 := Lib.hid (hf.2 _ _ _ _ (((Below.refl _ w1).alloc (Nat.le_refl _) _).block _ hl1 |>.trans XBB.out) (by omega) (by decide) (by decide))
  have x0 : w9.cell? ⟨w.heap.size, 0, none⟩ = some (.int .u8 4) := (cell_block XB9.out).trans rfl
  have HF := Lib.hid ((FrW.of_below (BB.out.alloc (Nat.le_of_lt hl1) _) HBb.out).trans hf)
  have K9 := Lib.hid k'; have I9 := Lib.hid i'; have M9 := Lib.hid m'
  clear hf k' i' m' x1
  go_wp2_with fail
  rw [show ((at_ : Int) + 1) = ((at_ + 1 : Nat) : Int) from by omega]
  refine (meet_inv _ B hw hp _ cc n H Dp D' X' nx' K9.out hB hBh I9.out HN5.out (at_+1) hn1 _ HND.out (by omega)).mono ?_
  rintro e wz ⟨rfl, hf, D'', X'', nx'', k', i', m'⟩
  have HFz := Lib.hid (HF.out.trans hf)
  have Kz := Lib.hid k'; have Iz := Lib.hid i'; have Mz := Lib.hid (Nat.le_trans m' M9.out)
  clear hf k' i' m'
  go_wp2_with fail
  go_ret
  exact ⟨rfl, HFz.out, D'', X'', nx'', Kz.out, Iz.out, Mz.out⟩
set_option maxRecDepth 100000 in
set_option maxHeartbeats 2000000 in
theorem through_fork (w : World) (B hw hp : Nat) (ca : Option Addr) (cc n H : Nat) (Dp : Nat → Int) (D : List Int) (X : List Th) (next : Int) (hk : WkAt w B hw hp ca cc n H D X next) (hB : B ≤ H) (hBh : B ≤ hp) (hI : Inv n Dp D X next) (hn5 : n ≤ 8500)
    (C : List Ins) (hCn : C.length = n) (hC : CodeAt w ca C) (at_ : Nat) (A num : Int) (text : ByteArray) (hx : C[at_]? = some (53, A, num, text)) (d : Int) (hd : Dp at_ = d) (hd0 : 0 ≤ d) (hd5 : d ≤ 9000) (AA : Nat) (hAA : A = AA) (hA : AA < n) (hth : Dp AA = 0) (hn1 : at_ + 1 < n) (hnd : Dp (at_ + 1) = d + 1) :
    Calls Try.prog 38 #[.pointer (some ⟨hw, 0, none⟩), .int .i64 at_, .int .i64 d] w (ThPost w B hw hp ca cc n H Dp D X) := by
  subst hAA
  have HTH := Lib.hid hth; clear hth
  have HND := Lib.hid hnd; clear hnd
  obtain ⟨word, hword, hkind⟩ := kind_any 53 (by unfold validOp; omega)
  unfold kindV at hkind
  have a0 : aOf 53 = 116 := by decide
  have a1 : numOf 53 = false := by decide
  have a2 : textOf 53 = 0 := by decide
  have a3 : takesOf 53 = 0 := by decide
  have a4 : leaveOf 53 = 1 := by decide
  have a5 : manyOf 53 = false := by decide
  have a6 : endsOf 53 = false := by decide
  simp only [a0, a1, a2, a3, a4, a5, a6] at hkind
  clear a0 a1 a2 a3 a4 a5 a6
  have HKIND := Lib.hid hkind; clear hkind hword
  obtain ⟨g, rfl, c0, c1, c2, c3⟩ := hC at_ _ hx
  dsimp only at c0 c1 c2 c3
  have hat : at_ < n := by rw [← hCn]; exact (List.getElem?_eq_some_iff.1 hx).1
  have hati : (at_ : Int) < n := by omega
  have hat5 : at_ ≤ 8500 := by omega
  have HK := Lib.hid hk; have HI := Lib.hid hI; have HD := Lib.hid hd; have HN5 := Lib.hid hn5
  obtain ⟨da, dc, ao, cap, L, hW, _, hh⟩ := hk
  have p0 : w.cell? ⟨hw, 0, none⟩ = some (.slice (some ⟨g, 0, none⟩) n cc) := (cell_block hW).trans rfl
  have hwl : hw < w.heap.size := (Array.getElem?_eq_some_iff.1 hW).1
  have hpl : hp < w.heap.size := (Array.getElem?_eq_some_iff.1 hh.1).1
  have HBb : Hid (B ≤ w.heap.size) := Lib.hid (by omega)
  clear hW hh hC hCn hx hd hI
  go_enter Try.func38, Try.ntmps38
  go_wp2_with fail
  refine (HKIND.out _).mono ?_
  rintro e w1 ⟨rfl, hb⟩
  have XB := (hb.block w.heap.size (by simp)).trans (MapKept.heap_alloc w _).1
  have x0 : w1.cell? ⟨w.heap.size, 0, none⟩ = some (.int .u8 53) := (cell_block XB).trans rfl
  have x1 : w1.cell? ⟨w.heap.size, 1, none⟩ = some (.int .i64 (AA : Int)) := (cell_block XB).trans rfl
  have hl1 : w.heap.size < w1.heap.size := by have := hb.size; simp at this; omega
  have BB : Hid (Below w.heap.size w w1) := Lib.hid (((Below.refl _ w).alloc (Nat.le_refl _) _).trans (hb.mono (by simp)))
  have XBB := Lib.hid XB
  clear hb XB c0 c1 c2 c3 p0
  go_wp2_with fail
  refine (meet_inv _ B hw hp _ cc n H Dp D X next (HK.out.below (BB.out.alloc (Nat.le_of_lt hl1) _)) hB hBh HI.out HN5.out AA hA _ HTH.out (by omega)).mono ?_
  rintro e w9 ⟨rfl, hf, D', X', nx', k', i', m'⟩
  have XB9 := Lib.hid (hf.2 _ _ _ _ (((Below.refl _ w1).alloc (Nat.le_refl _) _).block _ hl1 |>.trans XBB.out) (by omega) (by decide) (by decide))
  have x0 : w9.cell? ⟨w.heap.size, 0, none⟩ = some (.int .u8 53) := (cell_block XB9.out).trans rfl
  have HF := Lib.hid ((FrW.of_below (BB.out.alloc (Nat.le_of_lt hl1) _) HBb.out).trans hf)
  have K9 := Lib.hid k'; have I9 := Lib.hid i'; have M9 := Lib.hid m'
  clear hf k' i' m' x1
  go_wp2_with fail
  rw [show ((at_ : Int) + 1) = ((at_ + 1 : Nat) : Int) from by omega]
  refine (meet_inv _ B hw hp _ cc n H Dp D' X' nx' K9.out hB hBh I9.out HN5.out (at_+1) hn1 _ HND.out (by omega)).mono ?_
  rintro e wz ⟨rfl, hf, D'', X'', nx'', k', i', m'⟩
  have HFz := Lib.hid (HF.out.trans hf)
  have Kz := Lib.hid k'; have Iz := Lib.hid i'; have Mz := Lib.hid (Nat.le_trans m' M9.out)
  clear hf k' i' m'
  go_wp2_with fail
  go_ret
  exact ⟨rfl, HFz.out, D'', X'', nx'', Kz.out, Iz.out, Mz.out⟩
end Go.Proofs.Ytkpgnopimnamfaa
namespace Go.Proofs.Ytkpgnopimnamfaa
open Go.ChangeShapes Go.WideShapes Go.ChangeAt Go.RowKit
/-- An instruction at a place, between two bounds, with the depths of all places. -/
inductive OkI (E : Nat → Int) (lo hi at_ : Nat) : Ins → Prop
  | plain (op A num : Int) (text : ByteArray) : validOp op → manyOf op = false → endsOf op = false → (aOf op == 116) = false → takesOf op ≤ E at_ → E (at_ + 1) = E at_ - takesOf op + leaveOf op → OkI E lo hi at_ (op, A, num, text)
  | many (op A num : Int) (text : ByteArray) : op = 25 ∨ op = 50 ∨ op = 51 → 0 ≤ A → A ≤ E at_ → E (at_ + 1) = E at_ - A + 1 → OkI E lo hi at_ (op, A, num, text)
  | ends (op A num : Int) (text : ByteArray) : op = 8 ∨ op = 9 ∨ op = 28 → E at_ = takesOf op → OkI E lo hi at_ (op, A, num, text)
  | jump (AA : Nat) (num : Int) (text : ByteArray) : lo ≤ AA → AA ≤ hi → E AA = E at_ → OkI E lo hi at_ (1, AA, num, text)
  | branch (AA : Nat) (num : Int) (text : ByteArray) : lo ≤ AA → AA ≤ hi → 1 ≤ E at_ → E AA = E at_ - 1 → E (at_ + 1) = E at_ - 1 → OkI E lo hi at_ (2, AA, num, text)
  | orand (op : Int) (AA : Nat) (num : Int) (text : ByteArray) : op = 3 ∨ op = 4 → lo ≤ AA → AA ≤ hi → 1 ≤ E at_ → E AA = E at_ → E (at_ + 1) = E at_ - 1 → OkI E lo hi at_ (op, AA, num, text)
  | fork (AA : Nat) (num : Int) (text : ByteArray) : lo ≤ AA → AA ≤ hi → E AA = 0 → E (at_ + 1) = E at_ + 1 → OkI E lo hi at_ (53, AA, num, text)
/-- Depths of a whole code. -/
def Depths (C : List Ins) (E : Nat → Int) : Prop :=
  E 0 = 0 ∧ ∀ (at_ : Nat) (x : Ins), C[at_]? = some x → 0 ≤ E at_ ∧ E at_ ≤ 9000 ∧ ((at_ + 1 < C.length ∧ OkI E 0 (C.length - 1) at_ x) ∨ (x.1 = 28 ∧ E at_ = 0))
theorem not_t {op : Int} (h : (aOf op == 116) = false) : ¬ op = 53 ∧ ¬ op = 3 ∧ ¬ op = 4 ∧ ¬ op = 1 := by
  refine ⟨?_, ?_, ?_, ?_⟩ <;> (rintro rfl; exact absurd h (by decide))
theorem takes_rng (op : Int) : 0 ≤ takesOf op ∧ takesOf op ≤ 2 := by unfold takesOf; split <;> (try split) <;> omega
theorem leave_rng (op : Int) : 0 ≤ leaveOf op ∧ leaveOf op ≤ 1 := by unfold leaveOf; split <;> omega
theorem through_any (w : World) (B hw hp : Nat) (ca : Option Addr) (cc n H : Nat) (Dp : Nat → Int) (D : List Int) (X : List Th) (next : Int) (hk : WkAt w B hw hp ca cc n H D X next) (hB : B ≤ H) (hBh : B ≤ hp) (hI : Inv n Dp D X next) (hn5 : n ≤ 8500)
    (C : List Ins) (hCn : C.length = n) (hC : CodeAt w ca C) (hdp : Depths C Dp) (at_ : Nat) (ha : at_ < n) (d : Int) (hd : Dp at_ = d) :
    Calls Try.prog 38 #[.pointer (some ⟨hw, 0, none⟩), .int .i64 at_, .int .i64 d] w (ThPost w B hw hp ca cc n H Dp D X) := by
  obtain ⟨x, hx⟩ : ∃ x, C[at_]? = some x := ⟨_, List.getElem?_eq_some_iff.2 ⟨by omega, rfl⟩⟩
  obtain ⟨h0, h9, hc⟩ := hdp.2 at_ x hx
  have e0 : (0 : Int) ≤ d := by omega
  have e9 : d ≤ 9000 := by omega
  rcases hc with ⟨h1, hok⟩ | ⟨h28, hz⟩
  · rw [hCn] at h1 hok
    cases hok with
    | plain op A num text hval hmany hends ha ht hnd =>
      have r1 := takes_rng op; have r2 := leave_rng op
      exact through_plain w B hw hp ca cc n H Dp D X next hk hB hBh hI hn5 C hCn hC at_ op A num text hx d hd e0 e9 hval hmany hends ha (not_t ha) r1.1 r1.2 r2.1 r2.2 (by omega) h1 (by omega)
    | many op A num text hop hA0 hAd hnd =>
      exact through_many w B hw hp ca cc n H Dp D X next hk hB hBh hI hn5 C hCn hC at_ op A num text hx d hd e0 e9 (by unfold validOp; omega) (by rcases hop with rfl | rfl | rfl <;> decide) (by rcases hop with rfl | rfl | rfl <;> decide) (by rcases hop with rfl | rfl | rfl <;> decide) (by omega) (by rcases hop with rfl | rfl | rfl <;> decide) (by rcases hop with rfl | rfl | rfl <;> decide) hA0 (by omega) h1 (by omega)
    | ends op A num text hop ht =>
      exact through_ends w B hw hp ca cc n H Dp D X next hk hBh hI hn5 C hCn hC at_ op A num text hx d hd e0 e9 (by unfold validOp; omega) (by rcases hop with rfl | rfl | rfl <;> decide) (by rcases hop with rfl | rfl | rfl <;> decide) (by omega)
    | jump AA num text l1 l2 ht =>
      exact through_jump w B hw hp ca cc n H Dp D X next hk hB hBh hI hn5 C hCn hC at_ AA num text hx d hd e0 e9 AA rfl (by omega) (by omega)
    | branch AA num text l1 l2 h3 ht hnd =>
      exact through_branch w B hw hp ca cc n H Dp D X next hk hB hBh hI hn5 C hCn hC at_ AA num text hx d hd e0 e9 AA rfl (by omega) (by omega) (by omega) h1 (by omega)
    | orand op AA num text hop l1 l2 h3 ht hnd =>
      rcases hop with rfl | rfl
      · exact through_or w B hw hp ca cc n H Dp D X next hk hB hBh hI hn5 C hCn hC at_ AA num text hx d hd e0 e9 AA rfl (by omega) (by omega) (by omega) h1 (by omega)
      · exact through_and w B hw hp ca cc n H Dp D X next hk hB hBh hI hn5 C hCn hC at_ AA num text hx d hd e0 e9 AA rfl (by omega) (by omega) (by omega) h1 (by omega)
    | fork AA num text l1 l2 ht hnd =>
      exact through_fork w B hw hp ca cc n H Dp D X next hk hB hBh hI hn5 C hCn hC at_ AA num text hx d hd e0 e9 AA rfl (by omega) (by omega) h1 (by omega)
  · obtain ⟨op, A, num, text⟩ := x
    dsimp only at h28
    subst h28
    exact through_ends w B hw hp ca cc n H Dp D X next hk hBh hI hn5 C hCn hC at_ 28 A num text hx d hd e0 e9 (by unfold validOp; omega) (by decide) (by decide) (by rw [show takesOf 28 = 0 from by decide]; omega)
end Go.Proofs.Ytkpgnopimnamfaa
