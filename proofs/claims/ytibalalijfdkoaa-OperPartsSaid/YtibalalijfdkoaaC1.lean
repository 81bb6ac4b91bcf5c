/- The walk of the statement OperParts: for all two numbers of 32 bits it returns true, and nothing that was there has turned. -/
import Derived.Test.YtibalalijfdkoaaB5
namespace Go.Proofs.Ytibalalijfdkoaa
open Go.ChangeShapes Go.WideShapes Go.ChangeAt Go.RowKit

theorem same_ints (x : Int) (b1 b2 : Nat) (w : World) (h1 : IsN w b1 2 x ⟨#[]⟩ 0 0) (h2 : IsN w b2 2 x ⟨#[]⟩ 0 0) :
    Calls Try.prog 11 #[.slice (some ⟨b1, 0, none⟩) 1 1, .slice (some ⟨b2, 0, none⟩) 1 1] w fun e w' => e = .returned (.bool true) ∧ Below w.heap.size w w' := by
  have h := same_any (Nice.int x) (Nice.int x) b1 b2 w h1 h2
  have e : (orOf (cmpI x x) (cmpS ⟨#[]⟩ ⟨#[]⟩) == 0) = true := by rw [cmpI_same]; rfl
  rwa [e] at h

set_option maxRecDepth 100000 in
set_option maxHeartbeats 4000000 in
theorem parts_walk (x y : Int) (hx0 : -2147483648 ≤ x) (hx1 : x ≤ 2147483647) (hy0 : -2147483648 ≤ y) (hy1 : y ≤ 2147483647) (w : World) :
    Calls Try.prog 4 #[.int .i32 x, .int .i32 y] w fun e w' => e = .returned (.bool true) ∧ Below w.heap.size w w' := by
  have HX : Hid (x.natAbs < 2 ^ 53) := (by omega : x.natAbs < 2 ^ 53)
  have HY : Hid (y.natAbs < 2 ^ 53) := (by omega : y.natAbs < 2 ^ 53)
  have HNY : Hid ((-y).natAbs < 2 ^ 53) := (by omega : (-y).natAbs < 2 ^ 53)
  have HXX : Hid ((x + x).natAbs < 2 ^ 53) := (by omega : (x + x).natAbs < 2 ^ 53)
  have HYY : Hid ((y + -y).natAbs < 2 ^ 53) := (by omega : (y + -y).natAbs < 2 ^ 53)
  have HB : Hid (Below w.heap.size w w) := Below.refl _ _
  go_enter Try.func4, Try.ntmps4
  go_wp2_with fail
  refine (int_any _ _).mono ?_
  rintro e w1 ⟨b1, rfl, nn, _, hb⟩
  have HBq := Lib.hid (HB.out.trans (hb.mono HB.out.size))
  clear HB hb  
  have HB := HBq; clear HBq
  have N1 := Lib.hid nn; clear nn
  go_wp2_with fail
  refine (int_any _ _).mono ?_
  rintro e w2 ⟨b2, rfl, nn, _, hb⟩
  have N1q := Lib.hid (N1.out.up hb)
  have HBq := Lib.hid (HB.out.trans (hb.mono HB.out.size))
  clear HB hb N1 
  have N1 := N1q; clear N1q
  have HB := HBq; clear HBq
  have N2 := Lib.hid nn; clear nn
  go_wp2_with fail
  refine (binary_num x y HX.out HY.out _ _ _ N1.out N2.out).mono ?_
  rintro e w3 ⟨bz, rfl, nn, _, hb⟩
  have HBq := Lib.hid (HB.out.trans (hb.mono HB.out.size))
  clear HB hb  N1 N2
  have HB := HBq; clear HBq
  have NZ := Lib.hid nn; clear nn
  go_wp2_with fail
  refine (unary_re x y HX.out HY.out _ _ NZ.out).mono ?_
  rintro e w4 ⟨br, rfl, nn, _, hb⟩
  have NZq := Lib.hid (NZ.out.up hb)
  have HBq := Lib.hid (HB.out.trans (hb.mono HB.out.size))
  clear HB hb NZ 
  have NZ := NZq; clear NZq
  have HB := HBq; clear HBq
  have NR := Lib.hid nn; clear nn
  go_wp2_with fail
  refine (unary_im x y HX.out HY.out _ _ NZ.out).mono ?_
  rintro e w5 ⟨bi, rfl, nn, _, hb⟩
  have NZq := Lib.hid (NZ.out.up hb)
  have NRq := Lib.hid (NR.out.up hb)
  have HBq := Lib.hid (HB.out.trans (hb.mono HB.out.size))
  clear HB hb NZ NR 
  have NZ := NZq; clear NZq
  have NR := NRq; clear NRq
  have HB := HBq; clear HBq
  have NI := Lib.hid nn; clear nn
  go_wp2_with fail
  refine (unary_conj x y HX.out HY.out _ _ NZ.out).mono ?_
  rintro e w6 ⟨bc, rfl, nn, _, hb⟩
  have NZq := Lib.hid (NZ.out.up hb)
  have NRq := Lib.hid (NR.out.up hb)
  have NIq := Lib.hid (NI.out.up hb)
  have HBq := Lib.hid (HB.out.trans (hb.mono HB.out.size))
  clear HB hb NZ NR NI 
  have NZ := NZq; clear NZq
  have NR := NRq; clear NRq
  have NI := NIq; clear NIq
  have HB := HBq; clear HBq
  have NC := Lib.hid nn; clear nn
  go_wp2_with fail
  refine (int_any _ _).mono ?_
  rintro e w7 ⟨b7, rfl, nn, _, hb⟩
  have NZq := Lib.hid (NZ.out.up hb)
  have NRq := Lib.hid (NR.out.up hb)
  have NIq := Lib.hid (NI.out.up hb)
  have NCq := Lib.hid (NC.out.up hb)
  have HBq := Lib.hid (HB.out.trans (hb.mono HB.out.size))
  clear HB hb NZ NR NI NC 
  have NZ := NZq; clear NZq
  have NR := NRq; clear NRq
  have NI := NIq; clear NIq
  have NC := NCq; clear NCq
  have HB := HBq; clear HBq
  have N1 := Lib.hid nn; clear nn
  go_wp2_with fail
  refine (same_ints x _ _ _ NR.out N1.out).mono ?_
  rintro e w8 ⟨rfl, hb⟩
  have NZq := Lib.hid (NZ.out.up hb)
  have NIq := Lib.hid (NI.out.up hb)
  have NCq := Lib.hid (NC.out.up hb)
  have HBq := Lib.hid (HB.out.trans (hb.mono HB.out.size))
  clear HB hb NZ NI NC NR N1
  have NZ := NZq; clear NZq
  have NI := NIq; clear NIq
  have NC := NCq; clear NCq
  have HB := HBq; clear HBq
  go_wp2_with fail
  refine (int_any _ _).mono ?_
  rintro e w9 ⟨b9, rfl, nn, _, hb⟩
  have NZq := Lib.hid (NZ.out.up hb)
  have NIq := Lib.hid (NI.out.up hb)
  have NCq := Lib.hid (NC.out.up hb)
  have HBq := Lib.hid (HB.out.trans (hb.mono HB.out.size))
  clear HB hb NZ NI NC 
  have NZ := NZq; clear NZq
  have NI := NIq; clear NIq
  have NC := NCq; clear NCq
  have HB := HBq; clear HBq
  have N1 := Lib.hid nn; clear nn
  go_wp2_with fail
  refine (same_ints y _ _ _ NI.out N1.out).mono ?_
  rintro e w10 ⟨rfl, hb⟩
  have NZq := Lib.hid (NZ.out.up hb)
  have NCq := Lib.hid (NC.out.up hb)
  have HBq := Lib.hid (HB.out.trans (hb.mono HB.out.size))
  clear HB hb NZ NC NI N1
  have NZ := NZq; clear NZq
  have NC := NCq; clear NCq
  have HB := HBq; clear HBq
  go_wp2_with fail
  refine (unary_im x (-y) HX.out HNY.out _ _ NC.out).mono ?_
  rintro e w11 ⟨bk, rfl, nn, _, hb⟩
  have NZq := Lib.hid (NZ.out.up hb)
  have NCq := Lib.hid (NC.out.up hb)
  have HBq := Lib.hid (HB.out.trans (hb.mono HB.out.size))
  clear HB hb NZ NC 
  have NZ := NZq; clear NZq
  have NC := NCq; clear NCq
  have HB := HBq; clear HBq
  have NK := Lib.hid nn; clear nn
  go_wp2_with fail
  refine (binary_addz x y x (-y) HX.out HY.out HX.out HNY.out HXX.out HYY.out _ _ _ NZ.out NC.out).mono ?_
  rintro e w12 ⟨bs, rfl, nn, _, hb⟩
  have NKq := Lib.hid (NK.out.up hb)
  have HBq := Lib.hid (HB.out.trans (hb.mono HB.out.size))
  clear HB hb NK NZ NC
  have NK := NKq; clear NKq
  have HB := HBq; clear HBq
  have NS := Lib.hid nn; clear nn
  go_wp2_with fail
  refine (int_any _ _).mono ?_
  rintro e w13 ⟨b13, rfl, nn, _, hb⟩
  have NKq := Lib.hid (NK.out.up hb)
  have NSq := Lib.hid (NS.out.up hb)
  have HBq := Lib.hid (HB.out.trans (hb.mono HB.out.size))
  clear HB hb NK NS 
  have NK := NKq; clear NKq
  have NS := NSq; clear NSq
  have HB := HBq; clear HBq
  have N1 := Lib.hid nn; clear nn
  go_wp2_with fail
  refine (same_ints (-y) _ _ _ NK.out N1.out).mono ?_
  rintro e w14 ⟨rfl, hb⟩
  have NSq := Lib.hid (NS.out.up hb)
  have HBq := Lib.hid (HB.out.trans (hb.mono HB.out.size))
  clear HB hb NS NK N1
  have NS := NSq; clear NSq
  have HB := HBq; clear HBq
  go_wp2_with fail
  refine (unary_re (x + x) (y + -y) HXX.out HYY.out _ _ NS.out).mono ?_
  rintro e w15 ⟨bt, rfl, nn, _, hb⟩
  have NSq := Lib.hid (NS.out.up hb)
  have HBq := Lib.hid (HB.out.trans (hb.mono HB.out.size))
  clear HB hb NS 
  have NS := NSq; clear NSq
  have HB := HBq; clear HBq
  have NT := Lib.hid nn; clear nn
  go_wp2_with fail
  refine (unary_im (x + x) (y + -y) HXX.out HYY.out _ _ NS.out).mono ?_
  rintro e w16 ⟨bn, rfl, nn, _, hb⟩
  have NTq := Lib.hid (NT.out.up hb)
  have HBq := Lib.hid (HB.out.trans (hb.mono HB.out.size))
  clear HB hb NT NS
  have NT := NTq; clear NTq
  have HB := HBq; clear HBq
  have NN := Lib.hid nn; clear nn
  have NT' := Lib.hid (show IsN _ bt 2 (2 * x) ⟨#[]⟩ 0 0 from by have h := NT.out; rwa [show x + x = 2 * x by omega] at h)
  have NN' := Lib.hid (show IsN _ bn 2 0 ⟨#[]⟩ 0 0 from by have h := NN.out; rwa [show y + -y = 0 by omega] at h)
  clear NT NN
  go_wp2_with fail
  refine (int_any _ _).mono ?_
  rintro e w17 ⟨b17, rfl, nn, _, hb⟩
  have NT'q := Lib.hid (NT'.out.up hb)
  have NN'q := Lib.hid (NN'.out.up hb)
  have HBq := Lib.hid (HB.out.trans (hb.mono HB.out.size))
  clear HB hb NT' NN' 
  have NT' := NT'q; clear NT'q
  have NN' := NN'q; clear NN'q
  have HB := HBq; clear HBq
  have N1 := Lib.hid nn; clear nn
  go_wp2_with fail
  refine (same_ints (2 * x) _ _ _ NT'.out N1.out).mono ?_
  rintro e w18 ⟨rfl, hb⟩
  have NN'q := Lib.hid (NN'.out.up hb)
  have HBq := Lib.hid (HB.out.trans (hb.mono HB.out.size))
  clear HB hb NN' NT' N1
  have NN' := NN'q; clear NN'q
  have HB := HBq; clear HBq
  go_wp2_with fail
  refine (int_any _ _).mono ?_
  rintro e w19 ⟨b19, rfl, nn, _, hb⟩
  have NN'q := Lib.hid (NN'.out.up hb)
  have HBq := Lib.hid (HB.out.trans (hb.mono HB.out.size))
  clear HB hb NN' 
  have NN' := NN'q; clear NN'q
  have HB := HBq; clear HBq
  have N1 := Lib.hid nn; clear nn
  go_wp2_with fail
  refine (same_ints 0 _ _ _ NN'.out N1.out).mono ?_
  rintro e w20 ⟨rfl, hb⟩
  have HBq := Lib.hid (HB.out.trans (hb.mono HB.out.size))
  clear HB hb  NN' N1
  have HB := HBq; clear HBq
  go_wp2_with fail
  refine (wakes_any _).mono ?_
  rintro e w21 ⟨rfl, hb⟩
  have HBq := Lib.hid (HB.out.trans (hb.mono HB.out.size))
  clear HB hb  
  have HB := HBq; clear HBq
  go_wp2_with fail
  go_ret
  exact ⟨rfl, HB.out⟩
end Go.Proofs.Ytibalalijfdkoaa
