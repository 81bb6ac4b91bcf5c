/- The plane's functions at the words of whole numbers: Of, Conj, told, Add, part, Parts; oper.complexOf. -/
import Derived.Test.YtibalalijfdkoaaA2
namespace Go.Proofs.Ytibalalijfdkoaa
open Go.ChangeShapes Go.WideShapes Go.ChangeAt Go.RowKit

theorem of_any (x y : Int) (w : World) : Calls Try.prog 22 #[.int .i64 x, .int .i64 y] w fun e w' => e = .returned (.complex .f64 (fl x) (fl y)) ∧ w = w' := by
  go_enter Try.func22, Try.ntmps22
  go_wp2
  go_ret
  exact ⟨rfl, rfl⟩

theorem neg_run {r q : Nat} (h : Op.negFloat .f64 r = q) (w : World) : (Op.unary .neg (.float .f64 r)).run Try.prog w = .ok (.float .f64 q) w := by
  subst h; rfl
theorem conj_any (x y : Int) (hx : x.natAbs < 2 ^ 53) (hy : y.natAbs < 2 ^ 53) (w : World) : Calls Try.prog 42 #[.complex .f64 (fl x) (fl y)] w fun e w' => e = .returned (.complex .f64 (fl x) (fl (-y))) ∧ w = w' := by
  by_cases h : y = 0
  · subst h
    have h2 := neg_run (show Op.negFloat .f64 (fl 0) = 9223372036854775808 from neg_fl_zero)
    have h3 : fl (-0) = 0 := fl_zero
    have H1 := Lib.hid (okw_fl x hx); clear hx hy
    have H3 := Lib.hid h3; clear h3
    go_enter Try.func42, Try.ntmps42
    go_wp2_with fail
    refine (Plain_neg0 _ H1.out _).mono ?_
    rintro e w' ⟨rfl, rfl⟩
    go_wp2
    go_ret
    exact ⟨by rw [H3.out]; rfl, rfl⟩
  · have h2 := neg_run (neg_fl y h hy)
    have H1 := Lib.hid (okw_fl x hx)
    have H2 := Lib.hid (okw_fl (-y) (by omega)); clear hx hy h
    go_enter Try.func42, Try.ntmps42
    go_wp2_with fail
    refine (Plain_any _ _ H1.out H2.out _).mono ?_
    rintro e w' ⟨rfl, rfl⟩
    go_wp2
    go_ret
    exact ⟨rfl, rfl⟩

theorem told_any (a b c d r q : Nat) (ha : Okw a) (hb : Okw b) (hc : Okw c) (hd : Okw d) (hr : Okw r) (hq : Okw q) (w : World) :
    Calls Try.prog 51 #[.complex .f64 a b, .complex .f64 c d, .float .f64 r, .float .f64 q] w fun e w' => e = .returned (.tuple #[.complex .f64 r q, .int .i64 0]) ∧ w = w' := by
  have Ha := Lib.hid ha; have Hb := Lib.hid hb; have Hc := Lib.hid hc; have Hd := Lib.hid hd; have Hr := Lib.hid hr; have Hq := Lib.hid hq
  clear ha hb hc hd hr hq
  go_enter Try.func51, Try.ntmps51
  go_wp2_with fail
  refine (ends_any _ _ Ha.out.1 Hb.out.1 _).mono ?_
  rintro e w' ⟨rfl, rfl⟩
  go_wp2_with fail
  refine (ends_any _ _ Hc.out.1 Hd.out.1 _).mono ?_
  rintro e w' ⟨rfl, rfl⟩
  go_wp2_with fail
  refine (ends_any _ _ Hr.out.1 Hq.out.1 _).mono ?_
  rintro e w' ⟨rfl, rfl⟩
  go_wp2_with fail
  refine (Plain_any _ _ Hr.out Hq.out _).mono ?_
  rintro e w' ⟨rfl, rfl⟩
  go_wp2
  go_ret2
  exact ⟨rfl, rfl⟩

theorem addf_run {a b : Int} (ha : a.natAbs < 2 ^ 53) (hb : b.natAbs < 2 ^ 53) (hab : (a + b).natAbs < 2 ^ 53) (w : World) : (binOp .add 73 (.float .f64 (fl a)) (.float .f64 (fl b))).run Try.prog w = .ok (.float .f64 (fl (a + b))) w :=
  run_float_arith w .add 73 .f64 _ _ _ (add_fl a b ha hb hab)

theorem add_any (a b c d : Int) (ha : a.natAbs < 2 ^ 53) (hb : b.natAbs < 2 ^ 53) (hc : c.natAbs < 2 ^ 53) (hd : d.natAbs < 2 ^ 53) (hac : (a + c).natAbs < 2 ^ 53) (hbd : (b + d).natAbs < 2 ^ 53) (w : World) :
    Calls Try.prog 33 #[.complex .f64 (fl a) (fl b), .complex .f64 (fl c) (fl d)] w fun e w' => e = .returned (.tuple #[.complex .f64 (fl (a + c)) (fl (b + d)), .int .i64 0]) ∧ w = w' := by
  have h1 := addf_run ha hc hac
  have h2 := addf_run hb hd hbd
  have Ha := Lib.hid (okw_fl a ha); have Hb := Lib.hid (okw_fl b hb); have Hc := Lib.hid (okw_fl c hc); have Hd := Lib.hid (okw_fl d hd); have Hr := Lib.hid (okw_fl _ hac); have Hq := Lib.hid (okw_fl _ hbd)
  clear ha hb hc hd hac hbd
  go_enter Try.func33, Try.ntmps33
  go_wp2_with fail
  refine (told_any _ _ _ _ _ _ Ha.out Hb.out Hc.out Hd.out Hr.out Hq.out _).mono ?_
  rintro e w' ⟨rfl, rfl⟩
  go_wp2
  go_ret2
  exact ⟨rfl, rfl⟩

theorem part_any (n : Int) (hn : n.natAbs < 2 ^ 53) (w : World) : Calls Try.prog 60 #[.float .f64 (fl n)] w fun e w' => e = .returned (.int .i64 n) ∧ w = w' := by
  have h1 : (FloatKind.f64.format.order (fl n) (fl n) != some Ordering.eq) = false := by
    show (Ieee.double.order (fl n) (fl n) != some Ordering.eq) = false
    rw [order_fl n n hn hn]; simp
  have h2 : (FloatKind.f64.format.order (fl n) 4890909195324358656 == some Ordering.gt || FloatKind.f64.format.order (fl n) 4890909195324358656 == some Ordering.eq) = false := by
    show (Ieee.double.order (fl n) 4890909195324358656 == some Ordering.gt || Ieee.double.order (fl n) 4890909195324358656 == some Ordering.eq) = false
    rw [order_high n hn]; rfl
  have h3 : (FloatKind.f64.format.order (fl n) 14114281232179134464 == some Ordering.lt) = false := by
    show (Ieee.double.order (fl n) 14114281232179134464 == some Ordering.lt) = false
    rw [order_low n hn]; rfl
  have h4 : ∀ w, (convert 73 2 (.float .f64 (fl n))).run Try.prog w = .ok (.int .i64 n) w := fun w => run_convert_float_int w 73 2 .f64 .i64 (fl n) n (by rw [Try.underlying73]; rfl) Try.underlying2 (toInt_fl n hn)
  clear hn
  simp only [Bool.or_eq_false_iff] at h2
  obtain ⟨h2, h2'⟩ := h2
  go_enter Try.func60, Try.ntmps60
  go_wp2
  go_ret
  exact ⟨rfl, rfl⟩

theorem parts_any (x y : Int) (hx : x.natAbs < 2 ^ 53) (hy : y.natAbs < 2 ^ 53) (w : World) : Calls Try.prog 43 #[.complex .f64 (fl x) (fl y)] w fun e w' => e = .returned (.tuple #[.int .i64 x, .int .i64 y]) ∧ w = w' := by
  have HX := Lib.hid hx; have HY := Lib.hid hy; clear hx hy
  go_enter Try.func43, Try.ntmps43
  go_wp2_with fail
  refine (part_any _ HX.out _).mono ?_
  rintro e w' ⟨rfl, rfl⟩
  go_wp2_with fail
  refine (part_any _ HY.out _).mono ?_
  rintro e w' ⟨rfl, rfl⟩
  go_wp2
  go_ret2
  exact ⟨rfl, rfl⟩

theorem complexOf_num (b : Nat) (r q : Nat) (w : World) (h : IsN w b 4 0 ⟨#[]⟩ r q) : Calls Try.prog 31 #[.slice (some ⟨b, 0, none⟩) 1 1] w fun e w' => e = .returned (.complex .f64 r q) ∧ w = w' := by
  obtain ⟨c0, c1, c2, c3, c4⟩ := h.cells
  clear h
  go_enter Try.func31, Try.ntmps31
  go_wp2
  go_ret
  exact ⟨rfl, rfl⟩
end Go.Proofs.Ytibalalijfdkoaa
