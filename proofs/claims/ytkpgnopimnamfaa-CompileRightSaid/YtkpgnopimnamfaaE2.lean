/- goer.plain: a twig's own instruction. -/
import Derived.Test.YtkpgnopimnamfaaE1
namespace Go.Proofs.Ytkpgnopimnamfaa
open Go.ChangeShapes Go.WideShapes Go.ChangeAt Go.RowKit
set_option maxHeartbeats 1000000 in
theorem plain_3 (w : World) (B G : Nat) (tv sv : Value) (a : Nat) (C : List Ins) (h : GoAt w B G tv sv a C) (hB : B ≤ G) (kids num : Int) (text : ByteArray) (slot : Int) :
    Calls Try.prog 24 #[ptr G, .agg #[.int .u8 3, .int .i64 kids, .int .i64 num, .string text], .int .i64 slot] w fun e w' => e = .returned (.tuple #[]) ∧ GoAt w' B G tv sv a C ∧ Sv B G w w' := by
  have hlt := h.lt
  have H2 := Lib.hid (h.alloc (.cells #[.int .u8 3, .int .i64 kids, .int .i64 num, .string text] 31))
  have S0 := Lib.hid ((Sv.refl B G w).alloc (by omega) (.cells #[.int .u8 3, .int .i64 kids, .int .i64 num, .string text] 31))
  clear h
  go_enter Try.func24, Try.ntmps24
  go_wp2_with fail
  go_end0
  exact ⟨rfl, H2.out, S0.out⟩
set_option maxHeartbeats 1000000 in
theorem plain_4 (w : World) (B G : Nat) (hB : B ≤ G) (tv sv : Value) (a : Nat) (C : List Ins) (h : GoAt w B G tv sv a C) (hC : C.length ≤ 10000) (kids num : Int) (text : ByteArray) (slot : Int) :
    Calls Try.prog 24 #[ptr G, .agg #[.int .u8 4, .int .i64 kids, .int .i64 num, .string text], .int .i64 slot] w fun e w' => e = .returned (.tuple #[]) ∧ GoAt w' B G tv sv a (C ++ [(27, slot, 0, ⟨#[]⟩)]) ∧ Sv B G w w' := by
  have hlt := h.lt
  have H2 := Lib.hid (h.alloc (.cells #[.int .u8 4, .int .i64 kids, .int .i64 num, .string text] 31))
  have S0 := Lib.hid ((Sv.refl B G w).alloc (by omega) (.cells #[.int .u8 4, .int .i64 kids, .int .i64 num, .string text] 31))
  have HC := Lib.hid hC; clear hC h
  go_enter Try.func24, Try.ntmps24
  go_wp2_with fail
  refine (put_any _ B G hB tv sv a C H2.out HC.out 27 slot 0 ⟨#[]⟩).mono ?_
  rintro e w1 ⟨rfl, h1, h2⟩
  have H1 := Lib.hid h1; have H2' := Lib.hid h2; clear h1 h2
  go_wp2_with fail
  go_end0
  exact ⟨rfl, H1.out, S0.out.trans H2'.out⟩
set_option maxHeartbeats 1000000 in
theorem plain_5 (w : World) (B G : Nat) (hB : B ≤ G) (tv sv : Value) (a : Nat) (C : List Ins) (h : GoAt w B G tv sv a C) (hC : C.length ≤ 10000) (kids num : Int) (text : ByteArray) (slot : Int) :
    Calls Try.prog 24 #[ptr G, .agg #[.int .u8 5, .int .i64 kids, .int .i64 num, .string text], .int .i64 slot] w fun e w' => e = .returned (.tuple #[]) ∧ GoAt w' B G tv sv a (C ++ [(27, slot, 0, ⟨#[]⟩)]) ∧ Sv B G w w' := by
  have hlt := h.lt
  have H2 := Lib.hid (h.alloc (.cells #[.int .u8 5, .int .i64 kids, .int .i64 num, .string text] 31))
  have S0 := Lib.hid ((Sv.refl B G w).alloc (by omega) (.cells #[.int .u8 5, .int .i64 kids, .int .i64 num, .string text] 31))
  have HC := Lib.hid hC; clear hC h
  go_enter Try.func24, Try.ntmps24
  go_wp2_with fail
  refine (put_any _ B G hB tv sv a C H2.out HC.out 27 slot 0 ⟨#[]⟩).mono ?_
  rintro e w1 ⟨rfl, h1, h2⟩
  have H1 := Lib.hid h1; have H2' := Lib.hid h2; clear h1 h2
  go_wp2_with fail
  go_end0
  exact ⟨rfl, H1.out, S0.out.trans H2'.out⟩
set_option maxHeartbeats 1000000 in
theorem plain_26 (w : World) (B G : Nat) (hB : B ≤ G) (tv sv : Value) (a : Nat) (C : List Ins) (h : GoAt w B G tv sv a C) (hC : C.length ≤ 10000) (kids num : Int) (text : ByteArray) (slot : Int) :
    Calls Try.prog 24 #[ptr G, .agg #[.int .u8 26, .int .i64 kids, .int .i64 num, .string text], .int .i64 slot] w fun e w' => e = .returned (.tuple #[]) ∧ GoAt w' B G tv sv a (C ++ [(26, slot, 0, ⟨#[]⟩)]) ∧ Sv B G w w' := by
  have hlt := h.lt
  have H2 := Lib.hid (h.alloc (.cells #[.int .u8 26, .int .i64 kids, .int .i64 num, .string text] 31))
  have S0 := Lib.hid ((Sv.refl B G w).alloc (by omega) (.cells #[.int .u8 26, .int .i64 kids, .int .i64 num, .string text] 31))
  have HC := Lib.hid hC; clear hC h
  go_enter Try.func24, Try.ntmps24
  go_wp2_with fail
  refine (put_any _ B G hB tv sv a C H2.out HC.out 26 slot 0 ⟨#[]⟩).mono ?_
  rintro e w1 ⟨rfl, h1, h2⟩
  have H1 := Lib.hid h1; have H2' := Lib.hid h2; clear h1 h2
  go_wp2_with fail
  go_end0
  exact ⟨rfl, H1.out, S0.out.trans H2'.out⟩
set_option maxHeartbeats 1000000 in
theorem plain_11 (w : World) (B G : Nat) (hB : B ≤ G) (tv sv : Value) (a : Nat) (C : List Ins) (h : GoAt w B G tv sv a C) (hC : C.length ≤ 10000) (kids num : Int) (text : ByteArray) (slot : Int) :
    Calls Try.prog 24 #[ptr G, .agg #[.int .u8 11, .int .i64 kids, .int .i64 num, .string text], .int .i64 slot] w fun e w' => e = .returned (.tuple #[]) ∧ GoAt w' B G tv sv a (C ++ [(6, 0, 0, ⟨#[]⟩)]) ∧ Sv B G w w' := by
  have hlt := h.lt
  have H2 := Lib.hid (h.alloc (.cells #[.int .u8 11, .int .i64 kids, .int .i64 num, .string text] 31))
  have S0 := Lib.hid ((Sv.refl B G w).alloc (by omega) (.cells #[.int .u8 11, .int .i64 kids, .int .i64 num, .string text] 31))
  have HC := Lib.hid hC; clear hC h
  go_enter Try.func24, Try.ntmps24
  go_wp2_with fail
  refine (op_any _ B G hB tv sv a C H2.out HC.out 6).mono ?_
  rintro e w1 ⟨rfl, h1, h2⟩
  have H1 := Lib.hid h1; have H2' := Lib.hid h2; clear h1 h2
  go_wp2_with fail
  go_end0
  exact ⟨rfl, H1.out, S0.out.trans H2'.out⟩
set_option maxHeartbeats 1000000 in
theorem plain_23 (w : World) (B G : Nat) (hB : B ≤ G) (tv sv : Value) (a : Nat) (C : List Ins) (h : GoAt w B G tv sv a C) (hC : C.length ≤ 10000) (kids num : Int) (text : ByteArray) (slot : Int) :
    Calls Try.prog 24 #[ptr G, .agg #[.int .u8 23, .int .i64 kids, .int .i64 num, .string text], .int .i64 slot] w fun e w' => e = .returned (.tuple #[]) ∧ GoAt w' B G tv sv a (C ++ [(23, 0, num, ⟨#[]⟩)]) ∧ Sv B G w w' := by
  have hlt := h.lt
  have H2 := Lib.hid (h.alloc (.cells #[.int .u8 23, .int .i64 kids, .int .i64 num, .string text] 31))
  have S0 := Lib.hid ((Sv.refl B G w).alloc (by omega) (.cells #[.int .u8 23, .int .i64 kids, .int .i64 num, .string text] 31))
  have HC := Lib.hid hC; clear hC h
  go_enter Try.func24, Try.ntmps24
  go_wp2_with fail
  have H3 : Hid (GoAt (w.alloc (.cells #[.int .u8 23, .int .i64 kids, .int .i64 num, .string text] 31)).drew B G tv sv a C) := Lib.hid H2.out
  have S1 : Hid (Sv B G w (w.alloc (.cells #[.int .u8 23, .int .i64 kids, .int .i64 num, .string text] 31)).drew) := Lib.hid (Sv.drew S0.out)
  go_region_law (go_simp; go_at_call 22; refine (put_any _ B G hB tv sv a C H3.out HC.out 23 0 num ⟨#[]⟩).mono ?_; rintro e w1 ⟨rfl, h1, h2⟩; have H1 := Lib.hid h1; have H2' := Lib.hid h2; clear h1 h2)
  all_goals
    go_wp2_with fail
    go_end0
    exact ⟨rfl, H1.out, S1.out.trans H2'.out⟩
set_option maxHeartbeats 1000000 in
theorem plain_24 (w : World) (B G : Nat) (hB : B ≤ G) (tv sv : Value) (a : Nat) (C : List Ins) (h : GoAt w B G tv sv a C) (hC : C.length ≤ 10000) (kids num : Int) (text : ByteArray) (slot : Int) :
    Calls Try.prog 24 #[ptr G, .agg #[.int .u8 24, .int .i64 kids, .int .i64 num, .string text], .int .i64 slot] w fun e w' => e = .returned (.tuple #[]) ∧ GoAt w' B G tv sv a (C ++ [(24, 0, 0, text)]) ∧ Sv B G w w' := by
  have hlt := h.lt
  have H2 := Lib.hid (h.alloc (.cells #[.int .u8 24, .int .i64 kids, .int .i64 num, .string text] 31))
  have S0 := Lib.hid ((Sv.refl B G w).alloc (by omega) (.cells #[.int .u8 24, .int .i64 kids, .int .i64 num, .string text] 31))
  have HC := Lib.hid hC; clear hC h
  go_enter Try.func24, Try.ntmps24
  go_wp2_with fail
  have H3 : Hid (GoAt (w.alloc (.cells #[.int .u8 24, .int .i64 kids, .int .i64 num, .string text] 31)).drew B G tv sv a C) := Lib.hid H2.out
  have S1 : Hid (Sv B G w (w.alloc (.cells #[.int .u8 24, .int .i64 kids, .int .i64 num, .string text] 31)).drew) := Lib.hid (Sv.drew S0.out)
  go_region_law (go_simp; go_at_call 22; refine (put_any _ B G hB tv sv a C H3.out HC.out 24 0 0 text).mono ?_; rintro e w1 ⟨rfl, h1, h2⟩; have H1 := Lib.hid h1; have H2' := Lib.hid h2; clear h1 h2)
  all_goals
    go_wp2_with fail
    go_end0
    exact ⟨rfl, H1.out, S1.out.trans H2'.out⟩
set_option maxHeartbeats 1000000 in
theorem plain_25 (w : World) (B G : Nat) (hB : B ≤ G) (tv sv : Value) (a : Nat) (C : List Ins) (h : GoAt w B G tv sv a C) (hC : C.length ≤ 10000) (kids num : Int) (text : ByteArray) (slot : Int) :
    Calls Try.prog 24 #[ptr G, .agg #[.int .u8 25, .int .i64 kids, .int .i64 num, .string text], .int .i64 slot] w fun e w' => e = .returned (.tuple #[]) ∧ GoAt w' B G tv sv a (C ++ [(25, kids, 0, ⟨#[]⟩)]) ∧ Sv B G w w' := by
  have hlt := h.lt
  have H2 := Lib.hid (h.alloc (.cells #[.int .u8 25, .int .i64 kids, .int .i64 num, .string text] 31))
  have S0 := Lib.hid ((Sv.refl B G w).alloc (by omega) (.cells #[.int .u8 25, .int .i64 kids, .int .i64 num, .string text] 31))
  have HC := Lib.hid hC; clear hC h
  go_enter Try.func24, Try.ntmps24
  go_wp2_with fail
  have H3 : Hid (GoAt (w.alloc (.cells #[.int .u8 25, .int .i64 kids, .int .i64 num, .string text] 31)).drew B G tv sv a C) := Lib.hid H2.out
  have S1 : Hid (Sv B G w (w.alloc (.cells #[.int .u8 25, .int .i64 kids, .int .i64 num, .string text] 31)).drew) := Lib.hid (Sv.drew S0.out)
  go_region_law (go_simp; go_at_call 22; refine (put_any _ B G hB tv sv a C H3.out HC.out 25 kids 0 ⟨#[]⟩).mono ?_; rintro e w1 ⟨rfl, h1, h2⟩; have H1 := Lib.hid h1; have H2' := Lib.hid h2; clear h1 h2)
  all_goals
    go_wp2_with fail
    go_end0
    exact ⟨rfl, H1.out, S1.out.trans H2'.out⟩
set_option maxHeartbeats 1000000 in
theorem plain_50 (w : World) (B G : Nat) (hB : B ≤ G) (tv sv : Value) (a : Nat) (C : List Ins) (h : GoAt w B G tv sv a C) (hC : C.length ≤ 10000) (kids num : Int) (text : ByteArray) (slot : Int) :
    Calls Try.prog 24 #[ptr G, .agg #[.int .u8 50, .int .i64 kids, .int .i64 num, .string text], .int .i64 slot] w fun e w' => e = .returned (.tuple #[]) ∧ GoAt w' B G tv sv a (C ++ [(50, kids, 0, text)]) ∧ Sv B G w w' := by
  have hlt := h.lt
  have H2 := Lib.hid (h.alloc (.cells #[.int .u8 50, .int .i64 kids, .int .i64 num, .string text] 31))
  have S0 := Lib.hid ((Sv.refl B G w).alloc (by omega) (.cells #[.int .u8 50, .int .i64 kids, .int .i64 num, .string text] 31))
  have HC := Lib.hid hC; clear hC h
  go_enter Try.func24, Try.ntmps24
  go_wp2_with fail
  have H3 : Hid (GoAt (w.alloc (.cells #[.int .u8 50, .int .i64 kids, .int .i64 num, .string text] 31)).drew B G tv sv a C) := Lib.hid H2.out
  have S1 : Hid (Sv B G w (w.alloc (.cells #[.int .u8 50, .int .i64 kids, .int .i64 num, .string text] 31)).drew) := Lib.hid (Sv.drew S0.out)
  go_region_law (go_simp; go_at_call 22; refine (put_any _ B G hB tv sv a C H3.out HC.out 50 kids 0 text).mono ?_; rintro e w1 ⟨rfl, h1, h2⟩; have H1 := Lib.hid h1; have H2' := Lib.hid h2; clear h1 h2)
  all_goals
    go_wp2_with fail
    go_end0
    exact ⟨rfl, H1.out, S1.out.trans H2'.out⟩
set_option maxHeartbeats 1000000 in
theorem plain_51 (w : World) (B G : Nat) (hB : B ≤ G) (tv sv : Value) (a : Nat) (C : List Ins) (h : GoAt w B G tv sv a C) (hC : C.length ≤ 10000) (kids num : Int) (text : ByteArray) (slot : Int) :
    Calls Try.prog 24 #[ptr G, .agg #[.int .u8 51, .int .i64 kids, .int .i64 num, .string text], .int .i64 slot] w fun e w' => e = .returned (.tuple #[]) ∧ GoAt w' B G tv sv a (C ++ [(51, kids, 0, text)]) ∧ Sv B G w w' := by
  have hlt := h.lt
  have H2 := Lib.hid (h.alloc (.cells #[.int .u8 51, .int .i64 kids, .int .i64 num, .string text] 31))
  have S0 := Lib.hid ((Sv.refl B G w).alloc (by omega) (.cells #[.int .u8 51, .int .i64 kids, .int .i64 num, .string text] 31))
  have HC := Lib.hid hC; clear hC h
  go_enter Try.func24, Try.ntmps24
  go_wp2_with fail
  have H3 : Hid (GoAt (w.alloc (.cells #[.int .u8 51, .int .i64 kids, .int .i64 num, .string text] 31)).drew B G tv sv a C) := Lib.hid H2.out
  have S1 : Hid (Sv B G w (w.alloc (.cells #[.int .u8 51, .int .i64 kids, .int .i64 num, .string text] 31)).drew) := Lib.hid (Sv.drew S0.out)
  go_region_law (go_simp; go_at_call 22; refine (put_any _ B G hB tv sv a C H3.out HC.out 51 kids 0 text).mono ?_; rintro e w1 ⟨rfl, h1, h2⟩; have H1 := Lib.hid h1; have H2' := Lib.hid h2; clear h1 h2)
  all_goals
    go_wp2_with fail
    go_end0
    exact ⟨rfl, H1.out, S1.out.trans H2'.out⟩
set_option maxHeartbeats 1000000 in
theorem plain_56 (w : World) (B G : Nat) (hB : B ≤ G) (tv sv : Value) (a : Nat) (C : List Ins) (h : GoAt w B G tv sv a C) (hC : C.length ≤ 10000) (kids num : Int) (text : ByteArray) (slot : Int) :
    Calls Try.prog 24 #[ptr G, .agg #[.int .u8 56, .int .i64 kids, .int .i64 num, .string text], .int .i64 slot] w fun e w' => e = .returned (.tuple #[]) ∧ GoAt w' B G tv sv a (C ++ [(56, 0, 0, text)]) ∧ Sv B G w w' := by
  have hlt := h.lt
  have H2 := Lib.hid (h.alloc (.cells #[.int .u8 56, .int .i64 kids, .int .i64 num, .string text] 31))
  have S0 := Lib.hid ((Sv.refl B G w).alloc (by omega) (.cells #[.int .u8 56, .int .i64 kids, .int .i64 num, .string text] 31))
  have HC := Lib.hid hC; clear hC h
  go_enter Try.func24, Try.ntmps24
  go_wp2_with fail
  have H3 : Hid (GoAt (w.alloc (.cells #[.int .u8 56, .int .i64 kids, .int .i64 num, .string text] 31)).drew B G tv sv a C) := Lib.hid H2.out
  have S1 : Hid (Sv B G w (w.alloc (.cells #[.int .u8 56, .int .i64 kids, .int .i64 num, .string text] 31)).drew) := Lib.hid (Sv.drew S0.out)
  go_region_law (go_simp; go_at_call 22; refine (put_any _ B G hB tv sv a C H3.out HC.out 56 0 0 text).mono ?_; rintro e w1 ⟨rfl, h1, h2⟩; have H1 := Lib.hid h1; have H2' := Lib.hid h2; clear h1 h2)
  all_goals
    go_wp2_with fail
    go_end0
    exact ⟨rfl, H1.out, S1.out.trans H2'.out⟩
set_option maxHeartbeats 1000000 in
theorem plain_any_op (w : World) (B G : Nat) (hB : B ≤ G) (tv sv : Value) (a : Nat) (C : List Ins) (h : GoAt w B G tv sv a C) (hC : C.length ≤ 10000) (op kids num : Int) (text : ByteArray) (slot : Int) (N : ¬ op = 3 ∧ ¬ op = 4 ∧ ¬ op = 5 ∧ ¬ op = 26 ∧ ¬ op = 11 ∧ ¬ op = 23 ∧ ¬ op = 24 ∧ ¬ op = 25 ∧ ¬ op = 50 ∧ ¬ op = 51 ∧ ¬ op = 56) :
    Calls Try.prog 24 #[ptr G, .agg #[.int .u8 op, .int .i64 kids, .int .i64 num, .string text], .int .i64 slot] w fun e w' => e = .returned (.tuple #[]) ∧ GoAt w' B G tv sv a (C ++ [(op, 0, 0, ⟨#[]⟩)]) ∧ Sv B G w w' := by
  have hlt := h.lt
  have H2 := Lib.hid (h.alloc (.cells #[.int .u8 op, .int .i64 kids, .int .i64 num, .string text] 31))
  have S0 := Lib.hid ((Sv.refl B G w).alloc (by omega) (.cells #[.int .u8 op, .int .i64 kids, .int .i64 num, .string text] 31))
  have HC := Lib.hid hC; clear hC h
  obtain ⟨n1, n2, n3, n4, n5, n6, n7, n8, n9, n10, n11⟩ := N
  go_enter Try.func24, Try.ntmps24
  go_wp2_with fail
  have H3 : Hid (GoAt (w.alloc (.cells #[.int .u8 op, .int .i64 kids, .int .i64 num, .string text] 31)).drew B G tv sv a C) := Lib.hid H2.out
  have S1 : Hid (Sv B G w (w.alloc (.cells #[.int .u8 op, .int .i64 kids, .int .i64 num, .string text] 31)).drew) := Lib.hid (Sv.drew S0.out)
  go_region_law (go_simp; go_at_call 19; refine (op_any _ B G hB tv sv a C H3.out HC.out op).mono ?_; rintro e w1 ⟨rfl, h1, h2⟩; have H1 := Lib.hid h1; have H2' := Lib.hid h2; clear h1 h2)
  all_goals
    go_wp2_with fail
    go_end0
    exact ⟨rfl, H1.out, S1.out.trans H2'.out⟩
end Go.Proofs.Ytkpgnopimnamfaa
