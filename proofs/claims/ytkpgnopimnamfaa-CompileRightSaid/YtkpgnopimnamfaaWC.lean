/- instr.walk.all and circle; instr.right. -/
import Derived.Test.YtkpgnopimnamfaaWB
namespace Go.Proofs.Ytkpgnopimnamfaa
open Go.ChangeShapes Go.WideShapes Go.ChangeAt Go.RowKit
theorem WkAt.popped {w w' : World} {B hw hp cc n H : Nat} {ca : Option Addr} {D : List Int} {X X' : List Th} {next : Int} {ao : Option Addr} {cap : Nat} {L : List (Int × Value)} (h : WkAt w B hw hp ca cc n H D X next) (hf : FrT B hp w w') (hz : HpO w' B hp ao cap H X' next L) : WkAt w' B hw hp ca cc n H D X' next := by
  obtain ⟨da, dc, ao0, cap0, L0, h1, h2, h3⟩ := h
  have hne1 : hw ≠ hp := fun e => by
    have := h3.1
    rw [← e, h1] at this; cases this
  have hne2 : hp ≠ da := fun e => by
    rcases h2.2 with ⟨e', _⟩ | ⟨g', cap', cur, e', hb, hg, _⟩
    · cases e'
    · cases e'
      have := h3.1
      rw [e, hg] at this; cases this
  exact ⟨da, dc, ao, cap, L, hf.2 _ _ _ _ h1 hne1 (by decide), own_frt h2 hf hne2, hz⟩
theorem WkAt.pos {w : World} {B hw hp cc n H : Nat} {ca : Option Addr} {D : List Int} {X : List Th} {next : Int} (h : WkAt w B hw hp ca cc n H D X next) : hw < w.heap.size ∧ hp < w.heap.size := by
  obtain ⟨da, dc, ao0, cap0, L0, h1, h2, h3⟩ := h
  exact ⟨(Array.getElem?_eq_some_iff.1 h1).1, (Array.getElem?_eq_some_iff.1 h3.1).1⟩
theorem WkAt.cells {w : World} {B hw hp cc n H : Nat} {ca : Option Addr} {D : List Int} {X : List Th} {next : Int} (h : WkAt w B hw hp ca cc n H D X next) : w.cell? ⟨hw, 0, none⟩ = some (.slice ca n cc) ∧ w.cell? ⟨hw, 2, none⟩ = some (.pointer (some ⟨hp, 0, none⟩)) := by
  obtain ⟨da, dc, ao0, cap0, L0, h1, h2, h3⟩ := h
  exact ⟨(cell_block h1).trans rfl, (cell_block h1).trans rfl⟩
def AllRel (w : World) (B hw hp : Nat) (ca : Option Addr) (cc n H : Nat) (Dp : Nat → Int) (gk : Nat) (wr : World) : Prop :=
  ∃ D X next, WkAt wr B hw hp ca cc n H D X next ∧ Inv n Dp D X next ∧ FrW B hp w wr ∧ 2 * unmet D + X.length ≤ gk
def AllPost (w : World) (B hw hp : Nat) (ca : Option Addr) (cc n H : Nat) (Dp : Nat → Int) (e : Ending) (w' : World) : Prop :=
  e = .returned (.int .i64 (-1)) ∧ FrW B hp w w' ∧ ∃ D X next, WkAt w' B hw hp ca cc n H D X next ∧ Inv n Dp D X next
set_option maxRecDepth 100000 in
set_option maxHeartbeats 2000000 in
theorem through_all (w : World) (B hw hp : Nat) (ca : Option Addr) (cc n H : Nat) (Dp : Nat → Int) (D : List Int) (X : List Th) (next : Int) (hk : WkAt w B hw hp ca cc n H D X next) (hB : B ≤ H) (hBh : B ≤ hp) (hI : Inv n Dp D X next) (hn5 : n ≤ 8500) (hn0 : 0 < n)
    (C : List Ins) (hCn : C.length = n) (hC : CodeAt w ca C) (hg : ∀ g, ca = some ⟨g, 0, none⟩ → g < B) (hdp : Depths C Dp) :
    Calls Try.prog 27 #[.pointer (some ⟨hw, 0, none⟩)] w (AllPost w B hw hp ca cc n H Dp) := by
  have HK := Lib.hid hk; have HI := Lib.hid hI; have HN5 := Lib.hid hn5; have HC := Lib.hid hC; have HG := Lib.hid hg; have HDP := Lib.hid hdp; have HCN := Lib.hid hCn
  have h0 : Hid (Dp 0 = 0) := Lib.hid hdp.1
  clear hk hI hn5 hC hg hdp hCn
  go_enter Try.func27, Try.ntmps27
  go_wp2_with fail
  refine (meet_inv w B hw hp ca cc n H Dp D X next HK.out hB hBh HI.out HN5.out 0 hn0 0 h0.out (Int.le_refl _)).mono ?_
  rintro e w1 ⟨rfl, hf, D1, X1, nx1, k1, i1, m1⟩
  have HF := Lib.hid hf; have K1 := Lib.hid k1; have I1 := Lib.hid i1
  clear hf k1 i1 m1
  go_wp2_with fail
  go_loopg [6] (2 * unmet D1 + X1.length) (fun gk s6 wr => AllRel w B hw hp ca cc n H Dp gk wr)
  case atStart => exact ⟨D1, X1, nx1, K1.out, I1.out, HF.out, Nat.le_refl _⟩
  case round =>
    obtain ⟨D2, X2, nx2, k2, i2, f2, m2⟩ := hrel
    have p2 := k2.cells.2
    have K2 := Lib.hid k2; have I2 := Lib.hid i2; have F2 := Lib.hid f2; have M2 := Lib.hid m2
    clear k2 i2 f2 m2
    obtain ⟨da, dc, ao, cap, L, hW, hD, hh⟩ := K2.out
    have HH := Lib.hid hh
    clear hW hD hh
    cases X2 with
    | nil =>
      go_wp2_with fail
      refine (pop_none wr B hp cap H ao nx2 L HH.out).mono ?_
      rintro e w' ⟨rfl, rfl⟩
      go_wp2_with fail
      go_ret
      exact ⟨rfl, F2.out, D2, [], nx2, K2.out, I2.out⟩
    | cons x X2 =>
      have hlen : Hid (X2.length ≤ 9000) := Lib.hid (by
        obtain ⟨i1, i2, i3, i4, i5⟩ := I2.out
        have := HN5.out
        simp only [List.length_cons] at i5
        omega)
      go_wp2_with fail
      refine (pop_some wr B hp cap H ao x X2 nx2 L HH.out hB hBh hlen.out).mono ?_
      rintro e w5 hp5
      obtain ⟨y, ao', cap', X', L', rfl, hperm, hz, hf⟩ := hp5
      have K5 := Lib.hid (K2.out.popped hf hz)
      have F5 := Lib.hid (F2.out.trans (.of_frt hf))
      have HP := Lib.hid hperm
      have hy := I2.out.2.2.1 y (HP.out.mem_iff.1 (by simp))
      obtain ⟨y0, y1, y2⟩ := y
      obtain ⟨i, hi0, hi, hyd⟩ := hy
      dsimp only at hi0 hyd
      subst hi0
      have HYD := Lib.hid hyd.symm
      have I5 : Hid (Inv n Dp D2 X' nx2) := Lib.hid (by
        obtain ⟨i1, i2, i3, i4, i5⟩ := I2.out
        have hl := HP.out.length_eq
        simp only [List.length_cons] at hl i5
        exact ⟨i1, i2, fun x hx => i3 x (HP.out.mem_iff.1 (by simp [hx])), i4, by omega⟩)
      have M5 : Hid (2 * unmet D2 + X'.length < gk) := Lib.hid (by
        have hl := HP.out.length_eq
        have := M2.out
        simp only [List.length_cons] at hl this
        omega)
      have C5 : Hid (CodeAt w5 ca C) := Lib.hid (HC.out.upB HG.out F5.out.1)
      clear hperm hz hf hyd
      go_wp2_with fail
      refine (through_any w5 B hw hp ca cc n H Dp D2 X' nx2 K5.out hB hBh I5.out HN5.out C HCN.out C5.out HDP.out i hi y2 HYD.out).mono ?_
      rintro e w6 ⟨rfl, hf, D6, X6, nx6, k6, i6, m6⟩
      have F6 := Lib.hid (F5.out.trans hf); have K6 := Lib.hid k6; have I6 := Lib.hid i6
      have M6 : Hid (2 * unmet D6 + X6.length < gk) := Lib.hid (Nat.lt_of_le_of_lt m6 M5.out)
      clear hf k6 i6 m6
      go_wp2_with fail
      go_roundg (2 * unmet D6 + X6.length)
      case measure => exact M6.out
      case rel => exact ⟨D6, X6, nx6, K6.out, I6.out, F6.out, Nat.le_refl _⟩
end Go.Proofs.Ytkpgnopimnamfaa
namespace Go.Proofs.Ytkpgnopimnamfaa
open Go.ChangeShapes Go.WideShapes Go.ChangeAt Go.RowKit
/-- So many jumps and bools lead from a place to one that is neither. -/
inductive Chain (C : List Ins) : Nat → Nat → Prop
  | stop (at_ : Nat) (op A num : Int) (text : ByteArray) : C[at_]? = some (op, A, num, text) → ¬ op = 1 → ¬ op = 5 → Chain C at_ 0
  | jump (at_ AA : Nat) (num : Int) (text : ByteArray) (k : Nat) : C[at_]? = some (1, (AA : Int), num, text) → Chain C AA k → Chain C at_ (k + 1)
  | bool (at_ : Nat) (A num : Int) (text : ByteArray) (k : Nat) : C[at_]? = some (5, A, num, text) → Chain C (at_ + 1) k → Chain C at_ (k + 1)
set_option maxRecDepth 100000 in
set_option maxHeartbeats 2000000 in
theorem circle_any (w : World) (B hw hp : Nat) (ca : Option Addr) (cc n H : Nat) (D : List Int) (X : List Th) (next : Int) (hk : WkAt w B hw hp ca cc n H D X next) (hD : D.length = n) (hn5 : n ≤ 8500)
    (C : List Ins) (hCn : C.length = n) (hC : CodeAt w ca C) (hch : ∀ at_, at_ < n → ∃ k, k ≤ n ∧ Chain C at_ k) :
    Calls Try.prog 28 #[.pointer (some ⟨hw, 0, none⟩)] w fun e w' => e = .returned (.int .i64 (-1)) ∧ w = w' := by
  obtain ⟨da, dc, ao, cap, L, hW, hr, hh⟩ := hk
  have p0 : w.cell? ⟨hw, 0, none⟩ = some (.slice ca n cc) := (cell_block hW).trans rfl
  have p1 : w.cell? ⟨hw, 1, none⟩ = some (.slice (some ⟨da, 0, none⟩) n dc) := by rw [← hD]; exact (cell_block hW).trans rfl
  have HR := Lib.hid hr; have HC := Lib.hid hC; have HCH := Lib.hid hch; have HCN := Lib.hid hCn; have HD := Lib.hid hD
  clear hW hr hh hC hch hCn hD
  go_enter Try.func28, Try.ntmps28
  go_wp2_with fail
  go_loopg [12] n (fun gk s12 wr => w = wr ∧ ∃ k : Nat, k ≤ n ∧ gk = n - k ∧ s12 = .int .i64 k)
  case atStart => exact ⟨rfl, 0, Nat.zero_le _, rfl, rfl⟩
  case round =>
    obtain ⟨rfl, k, hk, hgk, rfl⟩ := hrel
    by_cases hlt : k < n
    · have hlt' : (k : Int) < n := by omega
      obtain ⟨v, hv⟩ : ∃ v, D[k]? = some v := ⟨_, List.getElem?_eq_some_iff.2 ⟨by have := HD.out; omega, rfl⟩⟩
      have c0 := row_cell HR.out hv
      have hk5 : k ≤ 8500 := by omega
      obtain ⟨m0, hm0, ch0⟩ := HCH.out k hlt
      have CH0 := Lib.hid ch0
      subst hgk
      clear hv ch0
      go_wp2_with fail
      go_loopg [5, 6] m0 (fun gi s5 s6 wx => w = wx ∧ ∃ t j : Nat, s5 = .int .i64 t ∧ s6 = .int .i64 j ∧ Chain C t gi ∧ j + gi ≤ n)
      case atStart => exact ⟨rfl, k, 0, rfl, rfl, CH0.out, by omega⟩
      case round =>
        obtain ⟨hww, t, j, rfl, rfl, hch, hj⟩ := hrel
        have hj5 : j ≤ 8500 := by omega
        have hjn : (j : Int) ≤ n := by omega
        have hjn2 : ¬ (n : Int) < j := by omega
        by_cases hv0 : 0 ≤ v
        · have hvn : ¬ v < 0 := by omega
          generalize hgi : gk = gi at hch hj
          cases hch with
          | stop _ op A num text hx ho1 ho5 =>
            have ht : t < n := by have := (List.getElem?_eq_some_iff.1 hx).1; have := HCN.out; omega
            have ht' : (t : Int) < n := by omega
            obtain ⟨g, rfl, q0, q1, q2, q3⟩ := HC.out t _ hx
            dsimp only at q0 q1 q2 q3
            subst hww
            clear hx
            go_wp2_with fail
            go_roundg (n - (k + 1))
            case measure => omega
            case rel => exact ⟨rfl, k + 1, by omega, rfl, by go_num⟩
          | jump _ AA num text m hx hc =>
            have ht : t < n := by have := (List.getElem?_eq_some_iff.1 hx).1; have := HCN.out; omega
            have ht' : (t : Int) < n := by omega
            obtain ⟨g, rfl, q0, q1, q2, q3⟩ := HC.out t _ hx
            dsimp only at q0 q1 q2 q3
            have CHC := Lib.hid hc
            subst hww
            clear hx hc
            go_wp2_with fail
            go_roundg m
            case measure => omega
            case rel => exact ⟨rfl, AA, j + 1, rfl, by go_num, CHC.out, by omega⟩
          | bool _ A num text m hx hc =>
            have ht : t < n := by have := (List.getElem?_eq_some_iff.1 hx).1; have := HCN.out; omega
            have ht' : (t : Int) < n := by omega
            have ht5 : t ≤ 8500 := by omega
            obtain ⟨g, rfl, q0, q1, q2, q3⟩ := HC.out t _ hx
            dsimp only at q0 q1 q2 q3
            have CHC := Lib.hid hc
            subst hww
            clear hx hc
            go_wp2_with fail
            go_roundg m
            case measure => omega
            case rel => exact ⟨rfl, t + 1, j + 1, by go_num, by go_num, CHC.out, by omega⟩
        · subst hww
          clear hch
          go_wp2_with fail
          go_roundg (n - (k + 1))
          case measure => omega
          case rel => exact ⟨rfl, k + 1, by omega, rfl, by go_num⟩
    · have hlt' : ¬ (k : Int) < n := by omega
      go_wp2_with fail
      go_ret
      exact ⟨rfl, rfl⟩
end Go.Proofs.Ytkpgnopimnamfaa
namespace Go.Proofs.Ytkpgnopimnamfaa
open Go.ChangeShapes Go.WideShapes Go.ChangeAt Go.RowKit
set_option maxRecDepth 100000 in
set_option maxHeartbeats 2000000 in
theorem right_116_0 (w : World) (n : Nat) (op : Int) (word : ByteArray) (hword : word.toList.isEmpty = false) (tk lv : Int) (mn en : Bool) (hkind : ∀ w, Calls Try.prog 15 #[.int .u8 op] w fun e w' => e = .returned (.agg #[.string word, .int .u8 116, .bool false, .int .u8 0, .int .i64 tk, .int .i64 lv, .bool mn, .bool en]) ∧ Below w.heap.size w w') (A : Int) (hA0 : 0 ≤ A) (hA : A < n) :
    Calls Try.prog 26 #[.agg #[.int .u8 op, .int .i64 A, .int .i64 0, .string noT], .int .i64 n] w fun e w' => e = .returned (.bool true) ∧ Below w.heap.size w w' := by
  have HKIND := Lib.hid hkind; clear hkind
  have hA1 : ¬ A < 0 := by omega
  have hA2 : ¬ n ≤ A := by omega
  go_enter Try.func26, Try.ntmps26
  go_upto_region 1 with fail
  have XB : Hid ((w.alloc (.cells #[.int .u8 op, .int .i64 A, .int .i64 0, .string noT] 33)).heap[w.heap.size]? = some (.cells #[.int .u8 op, .int .i64 A, .int .i64 0, .string noT] 33 (0, 0))) := Lib.hid (MapKept.heap_alloc w _).1
  have BX : Hid (Below w.heap.size w (w.alloc (.cells #[.int .u8 op, .int .i64 A, .int .i64 0, .string noT] 33))) := Lib.hid ((Below.refl _ w).alloc (Nat.le_refl _) _)
  have hl0 : w.heap.size < (w.alloc (.cells #[.int .u8 op, .int .i64 A, .int .i64 0, .string noT] 33)).heap.size := by simp
  obtain ⟨wa, hwa⟩ : ∃ wa, w.alloc (.cells #[.int .u8 op, .int .i64 A, .int .i64 0, .string noT] 33) = wa := ⟨_, rfl⟩
  rw [hwa] at XB BX hl0 ⊢
  have y0 : wa.cell? ⟨w.heap.size, 0, none⟩ = some (.int .u8 op) := (cell_block XB.out).trans rfl
  clear hwa
  go_wp2_with fail
  refine (HKIND.out _).mono ?_
  rintro e w1 ⟨rfl, hb⟩
  have XB1 := (hb.block w.heap.size hl0).trans XB.out
  have x1 : w1.cell? ⟨w.heap.size, 1, none⟩ = some (.int .i64 A) := (cell_block XB1).trans rfl
  have x2 : w1.cell? ⟨w.heap.size, 2, none⟩ = some (.int .i64 0) := (cell_block XB1).trans rfl
  have x3 : w1.cell? ⟨w.heap.size, 3, none⟩ = some (.string noT) := (cell_block XB1).trans rfl
  have hl1 : w.heap.size < w1.heap.size := Nat.lt_of_lt_of_le hl0 hb.size
  have BB : Hid (Below w.heap.size w w1) := Lib.hid (BX.out.trans (hb.mono (by omega)))
  clear hb XB1 y0
  go_wp2_with fail
  all_goals first | (exfalso; omega) | skip
  go_ret
  exact ⟨rfl, BB.out.alloc (Nat.le_of_lt hl1) _⟩
set_option maxRecDepth 100000 in
set_option maxHeartbeats 2000000 in
theorem right_115_0 (w : World) (n : Nat) (op : Int) (word : ByteArray) (hword : word.toList.isEmpty = false) (tk lv : Int) (mn en : Bool) (hkind : ∀ w, Calls Try.prog 15 #[.int .u8 op] w fun e w' => e = .returned (.agg #[.string word, .int .u8 115, .bool false, .int .u8 0, .int .i64 tk, .int .i64 lv, .bool mn, .bool en]) ∧ Below w.heap.size w w') (A : Int) (hA0 : 0 ≤ A) (hA : A < 100) :
    Calls Try.prog 26 #[.agg #[.int .u8 op, .int .i64 A, .int .i64 0, .string noT], .int .i64 n] w fun e w' => e = .returned (.bool true) ∧ Below w.heap.size w w' := by
  have HKIND := Lib.hid hkind; clear hkind
  have hA1 : ¬ A < 0 := by omega
  have hA2 : ¬ 100 ≤ A := by omega
  go_enter Try.func26, Try.ntmps26
  go_upto_region 1 with fail
  have XB : Hid ((w.alloc (.cells #[.int .u8 op, .int .i64 A, .int .i64 0, .string noT] 33)).heap[w.heap.size]? = some (.cells #[.int .u8 op, .int .i64 A, .int .i64 0, .string noT] 33 (0, 0))) := Lib.hid (MapKept.heap_alloc w _).1
  have BX : Hid (Below w.heap.size w (w.alloc (.cells #[.int .u8 op, .int .i64 A, .int .i64 0, .string noT] 33))) := Lib.hid ((Below.refl _ w).alloc (Nat.le_refl _) _)
  have hl0 : w.heap.size < (w.alloc (.cells #[.int .u8 op, .int .i64 A, .int .i64 0, .string noT] 33)).heap.size := by simp
  obtain ⟨wa, hwa⟩ : ∃ wa, w.alloc (.cells #[.int .u8 op, .int .i64 A, .int .i64 0, .string noT] 33) = wa := ⟨_, rfl⟩
  rw [hwa] at XB BX hl0 ⊢
  have y0 : wa.cell? ⟨w.heap.size, 0, none⟩ = some (.int .u8 op) := (cell_block XB.out).trans rfl
  clear hwa
  go_wp2_with fail
  refine (HKIND.out _).mono ?_
  rintro e w1 ⟨rfl, hb⟩
  have XB1 := (hb.block w.heap.size hl0).trans XB.out
  have x1 : w1.cell? ⟨w.heap.size, 1, none⟩ = some (.int .i64 A) := (cell_block XB1).trans rfl
  have x2 : w1.cell? ⟨w.heap.size, 2, none⟩ = some (.int .i64 0) := (cell_block XB1).trans rfl
  have x3 : w1.cell? ⟨w.heap.size, 3, none⟩ = some (.string noT) := (cell_block XB1).trans rfl
  have hl1 : w.heap.size < w1.heap.size := Nat.lt_of_lt_of_le hl0 hb.size
  have BB : Hid (Below w.heap.size w w1) := Lib.hid (BX.out.trans (hb.mono (by omega)))
  clear hb XB1 y0
  go_wp2_with fail
  all_goals first | (exfalso; omega) | skip
  go_ret
  exact ⟨rfl, BB.out.alloc (Nat.le_of_lt hl1) _⟩
set_option maxRecDepth 100000 in
set_option maxHeartbeats 2000000 in
theorem right_99_0 (w : World) (n : Nat) (op : Int) (word : ByteArray) (hword : word.toList.isEmpty = false) (tk lv : Int) (mn en : Bool) (hkind : ∀ w, Calls Try.prog 15 #[.int .u8 op] w fun e w' => e = .returned (.agg #[.string word, .int .u8 99, .bool false, .int .u8 0, .int .i64 tk, .int .i64 lv, .bool mn, .bool en]) ∧ Below w.heap.size w w') (A : Int) (hA0 : 0 ≤ A) (hA : A < 2049) :
    Calls Try.prog 26 #[.agg #[.int .u8 op, .int .i64 A, .int .i64 0, .string noT], .int .i64 n] w fun e w' => e = .returned (.bool true) ∧ Below w.heap.size w w' := by
  have HKIND := Lib.hid hkind; clear hkind
  have hA1 : ¬ A < 0 := by omega
  have hA2 : ¬ 2049 ≤ A := by omega
  go_enter Try.func26, Try.ntmps26
  go_upto_region 1 with fail
  have XB : Hid ((w.alloc (.cells #[.int .u8 op, .int .i64 A, .int .i64 0, .string noT] 33)).heap[w.heap.size]? = some (.cells #[.int .u8 op, .int .i64 A, .int .i64 0, .string noT] 33 (0, 0))) := Lib.hid (MapKept.heap_alloc w _).1
  have BX : Hid (Below w.heap.size w (w.alloc (.cells #[.int .u8 op, .int .i64 A, .int .i64 0, .string noT] 33))) := Lib.hid ((Below.refl _ w).alloc (Nat.le_refl _) _)
  have hl0 : w.heap.size < (w.alloc (.cells #[.int .u8 op, .int .i64 A, .int .i64 0, .string noT] 33)).heap.size := by simp
  obtain ⟨wa, hwa⟩ : ∃ wa, w.alloc (.cells #[.int .u8 op, .int .i64 A, .int .i64 0, .string noT] 33) = wa := ⟨_, rfl⟩
  rw [hwa] at XB BX hl0 ⊢
  have y0 : wa.cell? ⟨w.heap.size, 0, none⟩ = some (.int .u8 op) := (cell_block XB.out).trans rfl
  clear hwa
  go_wp2_with fail
  refine (HKIND.out _).mono ?_
  rintro e w1 ⟨rfl, hb⟩
  have XB1 := (hb.block w.heap.size hl0).trans XB.out
  have x1 : w1.cell? ⟨w.heap.size, 1, none⟩ = some (.int .i64 A) := (cell_block XB1).trans rfl
  have x2 : w1.cell? ⟨w.heap.size, 2, none⟩ = some (.int .i64 0) := (cell_block XB1).trans rfl
  have x3 : w1.cell? ⟨w.heap.size, 3, none⟩ = some (.string noT) := (cell_block XB1).trans rfl
  have hl1 : w.heap.size < w1.heap.size := Nat.lt_of_lt_of_le hl0 hb.size
  have BB : Hid (Below w.heap.size w w1) := Lib.hid (BX.out.trans (hb.mono (by omega)))
  clear hb XB1 y0
  go_wp2_with fail
  all_goals first | (exfalso; omega) | skip
  go_ret
  exact ⟨rfl, BB.out.alloc (Nat.le_of_lt hl1) _⟩
set_option maxRecDepth 100000 in
set_option maxHeartbeats 2000000 in
theorem right_99_110 (w : World) (n : Nat) (op : Int) (word : ByteArray) (hword : word.toList.isEmpty = false) (tk lv : Int) (mn en : Bool) (hkind : ∀ w, Calls Try.prog 15 #[.int .u8 op] w fun e w' => e = .returned (.agg #[.string word, .int .u8 99, .bool false, .int .u8 110, .int .i64 tk, .int .i64 lv, .bool mn, .bool en]) ∧ Below w.heap.size w w') (A : Int) (hA0 : 0 ≤ A) (hA : A < 2049) (text : ByteArray) (ht : nameB text = true) :
    Calls Try.prog 26 #[.agg #[.int .u8 op, .int .i64 A, .int .i64 0, .string text], .int .i64 n] w fun e w' => e = .returned (.bool true) ∧ Below w.heap.size w w' := by
  have HKIND := Lib.hid hkind; clear hkind
  have hA1 : ¬ A < 0 := by omega
  have hA2 : ¬ 2049 ≤ A := by omega
  have HT := Lib.hid ht; clear ht
  go_enter Try.func26, Try.ntmps26
  go_upto_region 1 with fail
  have XB : Hid ((w.alloc (.cells #[.int .u8 op, .int .i64 A, .int .i64 0, .string text] 33)).heap[w.heap.size]? = some (.cells #[.int .u8 op, .int .i64 A, .int .i64 0, .string text] 33 (0, 0))) := Lib.hid (MapKept.heap_alloc w _).1
  have BX : Hid (Below w.heap.size w (w.alloc (.cells #[.int .u8 op, .int .i64 A, .int .i64 0, .string text] 33))) := Lib.hid ((Below.refl _ w).alloc (Nat.le_refl _) _)
  have hl0 : w.heap.size < (w.alloc (.cells #[.int .u8 op, .int .i64 A, .int .i64 0, .string text] 33)).heap.size := by simp
  obtain ⟨wa, hwa⟩ : ∃ wa, w.alloc (.cells #[.int .u8 op, .int .i64 A, .int .i64 0, .string text] 33) = wa := ⟨_, rfl⟩
  rw [hwa] at XB BX hl0 ⊢
  have y0 : wa.cell? ⟨w.heap.size, 0, none⟩ = some (.int .u8 op) := (cell_block XB.out).trans rfl
  clear hwa
  go_wp2_with fail
  refine (HKIND.out _).mono ?_
  rintro e w1 ⟨rfl, hb⟩
  have XB1 := (hb.block w.heap.size hl0).trans XB.out
  have x1 : w1.cell? ⟨w.heap.size, 1, none⟩ = some (.int .i64 A) := (cell_block XB1).trans rfl
  have x2 : w1.cell? ⟨w.heap.size, 2, none⟩ = some (.int .i64 0) := (cell_block XB1).trans rfl
  have x3 : w1.cell? ⟨w.heap.size, 3, none⟩ = some (.string text) := (cell_block XB1).trans rfl
  have hl1 : w.heap.size < w1.heap.size := Nat.lt_of_lt_of_le hl0 hb.size
  have BB : Hid (Below w.heap.size w w1) := Lib.hid (BX.out.trans (hb.mono (by omega)))
  clear hb XB1 y0
  go_upto_region 17 with fail
  all_goals first | (exfalso; omega) | skip
  go_wp2_with fail
  refine (name_any text _).mono ?_
  rintro e w9 ⟨rfl, rfl⟩
  rw [HT.out]
  go_wp2_with fail
  go_ret
  exact ⟨rfl, BB.out.alloc (Nat.le_of_lt hl1) _⟩
set_option maxRecDepth 100000 in
set_option maxHeartbeats 2000000 in
theorem right_0_0 (w : World) (n : Nat) (op : Int) (word : ByteArray) (hword : word.toList.isEmpty = false) (tk lv : Int) (mn en : Bool) (hkind : ∀ w, Calls Try.prog 15 #[.int .u8 op] w fun e w' => e = .returned (.agg #[.string word, .int .u8 0, .bool false, .int .u8 0, .int .i64 tk, .int .i64 lv, .bool mn, .bool en]) ∧ Below w.heap.size w w') :
    Calls Try.prog 26 #[.agg #[.int .u8 op, .int .i64 0, .int .i64 0, .string noT], .int .i64 n] w fun e w' => e = .returned (.bool true) ∧ Below w.heap.size w w' := by
  have HKIND := Lib.hid hkind; clear hkind
  go_enter Try.func26, Try.ntmps26
  go_upto_region 1 with fail
  have XB : Hid ((w.alloc (.cells #[.int .u8 op, .int .i64 0, .int .i64 0, .string noT] 33)).heap[w.heap.size]? = some (.cells #[.int .u8 op, .int .i64 0, .int .i64 0, .string noT] 33 (0, 0))) := Lib.hid (MapKept.heap_alloc w _).1
  have BX : Hid (Below w.heap.size w (w.alloc (.cells #[.int .u8 op, .int .i64 0, .int .i64 0, .string noT] 33))) := Lib.hid ((Below.refl _ w).alloc (Nat.le_refl _) _)
  have hl0 : w.heap.size < (w.alloc (.cells #[.int .u8 op, .int .i64 0, .int .i64 0, .string noT] 33)).heap.size := by simp
  obtain ⟨wa, hwa⟩ : ∃ wa, w.alloc (.cells #[.int .u8 op, .int .i64 0, .int .i64 0, .string noT] 33) = wa := ⟨_, rfl⟩
  rw [hwa] at XB BX hl0 ⊢
  have y0 : wa.cell? ⟨w.heap.size, 0, none⟩ = some (.int .u8 op) := (cell_block XB.out).trans rfl
  clear hwa
  go_wp2_with fail
  refine (HKIND.out _).mono ?_
  rintro e w1 ⟨rfl, hb⟩
  have XB1 := (hb.block w.heap.size hl0).trans XB.out
  have x1 : w1.cell? ⟨w.heap.size, 1, none⟩ = some (.int .i64 0) := (cell_block XB1).trans rfl
  have x2 : w1.cell? ⟨w.heap.size, 2, none⟩ = some (.int .i64 0) := (cell_block XB1).trans rfl
  have x3 : w1.cell? ⟨w.heap.size, 3, none⟩ = some (.string noT) := (cell_block XB1).trans rfl
  have hl1 : w.heap.size < w1.heap.size := Nat.lt_of_lt_of_le hl0 hb.size
  have BB : Hid (Below w.heap.size w w1) := Lib.hid (BX.out.trans (hb.mono (by omega)))
  clear hb XB1 y0
  go_wp2_with fail
  go_ret
  exact ⟨rfl, BB.out.alloc (Nat.le_of_lt hl1) _⟩
set_option maxRecDepth 100000 in
set_option maxHeartbeats 2000000 in
theorem right_0_110 (w : World) (n : Nat) (op : Int) (word : ByteArray) (hword : word.toList.isEmpty = false) (tk lv : Int) (mn en : Bool) (hkind : ∀ w, Calls Try.prog 15 #[.int .u8 op] w fun e w' => e = .returned (.agg #[.string word, .int .u8 0, .bool false, .int .u8 110, .int .i64 tk, .int .i64 lv, .bool mn, .bool en]) ∧ Below w.heap.size w w') (text : ByteArray) (ht : nameB text = true) :
    Calls Try.prog 26 #[.agg #[.int .u8 op, .int .i64 0, .int .i64 0, .string text], .int .i64 n] w fun e w' => e = .returned (.bool true) ∧ Below w.heap.size w w' := by
  have HKIND := Lib.hid hkind; clear hkind
  have HT := Lib.hid ht; clear ht
  go_enter Try.func26, Try.ntmps26
  go_upto_region 1 with fail
  have XB : Hid ((w.alloc (.cells #[.int .u8 op, .int .i64 0, .int .i64 0, .string text] 33)).heap[w.heap.size]? = some (.cells #[.int .u8 op, .int .i64 0, .int .i64 0, .string text] 33 (0, 0))) := Lib.hid (MapKept.heap_alloc w _).1
  have BX : Hid (Below w.heap.size w (w.alloc (.cells #[.int .u8 op, .int .i64 0, .int .i64 0, .string text] 33))) := Lib.hid ((Below.refl _ w).alloc (Nat.le_refl _) _)
  have hl0 : w.heap.size < (w.alloc (.cells #[.int .u8 op, .int .i64 0, .int .i64 0, .string text] 33)).heap.size := by simp
  obtain ⟨wa, hwa⟩ : ∃ wa, w.alloc (.cells #[.int .u8 op, .int .i64 0, .int .i64 0, .string text] 33) = wa := ⟨_, rfl⟩
  rw [hwa] at XB BX hl0 ⊢
  have y0 : wa.cell? ⟨w.heap.size, 0, none⟩ = some (.int .u8 op) := (cell_block XB.out).trans rfl
  clear hwa
  go_wp2_with fail
  refine (HKIND.out _).mono ?_
  rintro e w1 ⟨rfl, hb⟩
  have XB1 := (hb.block w.heap.size hl0).trans XB.out
  have x1 : w1.cell? ⟨w.heap.size, 1, none⟩ = some (.int .i64 0) := (cell_block XB1).trans rfl
  have x2 : w1.cell? ⟨w.heap.size, 2, none⟩ = some (.int .i64 0) := (cell_block XB1).trans rfl
  have x3 : w1.cell? ⟨w.heap.size, 3, none⟩ = some (.string text) := (cell_block XB1).trans rfl
  have hl1 : w.heap.size < w1.heap.size := Nat.lt_of_lt_of_le hl0 hb.size
  have BB : Hid (Below w.heap.size w w1) := Lib.hid (BX.out.trans (hb.mono (by omega)))
  clear hb XB1 y0
  go_wp2_with fail
  refine (name_any text _).mono ?_
  rintro e w9 ⟨rfl, rfl⟩
  rw [HT.out]
  go_wp2_with fail
  go_ret
  exact ⟨rfl, BB.out.alloc (Nat.le_of_lt hl1) _⟩
set_option maxRecDepth 100000 in
set_option maxHeartbeats 2000000 in
theorem right_0_120 (w : World) (n : Nat) (op : Int) (word : ByteArray) (hword : word.toList.isEmpty = false) (tk lv : Int) (mn en : Bool) (hkind : ∀ w, Calls Try.prog 15 #[.int .u8 op] w fun e w' => e = .returned (.agg #[.string word, .int .u8 0, .bool false, .int .u8 120, .int .i64 tk, .int .i64 lv, .bool mn, .bool en]) ∧ Below w.heap.size w w') (text : ByteArray) (ht : text.size < 4096) :
    Calls Try.prog 26 #[.agg #[.int .u8 op, .int .i64 0, .int .i64 0, .string text], .int .i64 n] w fun e w' => e = .returned (.bool true) ∧ Below w.heap.size w w' := by
  have HKIND := Lib.hid hkind; clear hkind
  have htd : decide ((text.size : Int) < 4096) = true := by simp; omega
  go_enter Try.func26, Try.ntmps26
  go_upto_region 1 with fail
  have XB : Hid ((w.alloc (.cells #[.int .u8 op, .int .i64 0, .int .i64 0, .string text] 33)).heap[w.heap.size]? = some (.cells #[.int .u8 op, .int .i64 0, .int .i64 0, .string text] 33 (0, 0))) := Lib.hid (MapKept.heap_alloc w _).1
  have BX : Hid (Below w.heap.size w (w.alloc (.cells #[.int .u8 op, .int .i64 0, .int .i64 0, .string text] 33))) := Lib.hid ((Below.refl _ w).alloc (Nat.le_refl _) _)
  have hl0 : w.heap.size < (w.alloc (.cells #[.int .u8 op, .int .i64 0, .int .i64 0, .string text] 33)).heap.size := by simp
  obtain ⟨wa, hwa⟩ : ∃ wa, w.alloc (.cells #[.int .u8 op, .int .i64 0, .int .i64 0, .string text] 33) = wa := ⟨_, rfl⟩
  rw [hwa] at XB BX hl0 ⊢
  have y0 : wa.cell? ⟨w.heap.size, 0, none⟩ = some (.int .u8 op) := (cell_block XB.out).trans rfl
  clear hwa
  go_wp2_with fail
  refine (HKIND.out _).mono ?_
  rintro e w1 ⟨rfl, hb⟩
  have XB1 := (hb.block w.heap.size hl0).trans XB.out
  have x1 : w1.cell? ⟨w.heap.size, 1, none⟩ = some (.int .i64 0) := (cell_block XB1).trans rfl
  have x2 : w1.cell? ⟨w.heap.size, 2, none⟩ = some (.int .i64 0) := (cell_block XB1).trans rfl
  have x3 : w1.cell? ⟨w.heap.size, 3, none⟩ = some (.string text) := (cell_block XB1).trans rfl
  have hl1 : w.heap.size < w1.heap.size := Nat.lt_of_lt_of_le hl0 hb.size
  have BB : Hid (Below w.heap.size w w1) := Lib.hid (BX.out.trans (hb.mono (by omega)))
  clear hb XB1 y0
  go_wp2_with fail
  go_ret
  exact ⟨rfl, BB.out.alloc (Nat.le_of_lt hl1) _⟩
set_option maxRecDepth 100000 in
set_option maxHeartbeats 2000000 in
theorem right_0_0_num (w : World) (n : Nat) (op : Int) (word : ByteArray) (hword : word.toList.isEmpty = false) (tk lv : Int) (mn en : Bool) (hkind : ∀ w, Calls Try.prog 15 #[.int .u8 op] w fun e w' => e = .returned (.agg #[.string word, .int .u8 0, .bool true, .int .u8 0, .int .i64 tk, .int .i64 lv, .bool mn, .bool en]) ∧ Below w.heap.size w w') (num : Int) :
    Calls Try.prog 26 #[.agg #[.int .u8 op, .int .i64 0, .int .i64 num, .string noT], .int .i64 n] w fun e w' => e = .returned (.bool true) ∧ Below w.heap.size w w' := by
  have HKIND := Lib.hid hkind; clear hkind
  go_enter Try.func26, Try.ntmps26
  go_upto_region 1 with fail
  have XB : Hid ((w.alloc (.cells #[.int .u8 op, .int .i64 0, .int .i64 num, .string noT] 33)).heap[w.heap.size]? = some (.cells #[.int .u8 op, .int .i64 0, .int .i64 num, .string noT] 33 (0, 0))) := Lib.hid (MapKept.heap_alloc w _).1
  have BX : Hid (Below w.heap.size w (w.alloc (.cells #[.int .u8 op, .int .i64 0, .int .i64 num, .string noT] 33))) := Lib.hid ((Below.refl _ w).alloc (Nat.le_refl _) _)
  have hl0 : w.heap.size < (w.alloc (.cells #[.int .u8 op, .int .i64 0, .int .i64 num, .string noT] 33)).heap.size := by simp
  obtain ⟨wa, hwa⟩ : ∃ wa, w.alloc (.cells #[.int .u8 op, .int .i64 0, .int .i64 num, .string noT] 33) = wa := ⟨_, rfl⟩
  rw [hwa] at XB BX hl0 ⊢
  have y0 : wa.cell? ⟨w.heap.size, 0, none⟩ = some (.int .u8 op) := (cell_block XB.out).trans rfl
  clear hwa
  go_wp2_with fail
  refine (HKIND.out _).mono ?_
  rintro e w1 ⟨rfl, hb⟩
  have XB1 := (hb.block w.heap.size hl0).trans XB.out
  have x1 : w1.cell? ⟨w.heap.size, 1, none⟩ = some (.int .i64 0) := (cell_block XB1).trans rfl
  have x2 : w1.cell? ⟨w.heap.size, 2, none⟩ = some (.int .i64 num) := (cell_block XB1).trans rfl
  have x3 : w1.cell? ⟨w.heap.size, 3, none⟩ = some (.string noT) := (cell_block XB1).trans rfl
  have hl1 : w.heap.size < w1.heap.size := Nat.lt_of_lt_of_le hl0 hb.size
  have BB : Hid (Below w.heap.size w w1) := Lib.hid (BX.out.trans (hb.mono (by omega)))
  clear hb XB1 y0
  go_wp2_with fail
  go_ret
  exact ⟨rfl, BB.out.alloc (Nat.le_of_lt hl1) _⟩
def topOf (op : Int) (n : Nat) : Int := if aOf op = 116 then n else if aOf op = 115 then 100 else if aOf op = 99 then 2049 else 1
/-- Is an instruction right in code of so many? -/
def RightI (n : Nat) (x : Ins) : Prop := validOp x.1 ∧ (numOf x.1 = false → x.2.2.1 = 0) ∧ 0 ≤ x.2.1 ∧ x.2.1 < topOf x.1 n ∧
  (if textOf x.1 = 120 then x.2.2.2.size < 4096 else if textOf x.1 = 110 then nameB x.2.2.2 = true else x.2.2.2 = noT)
theorem right_any (w : World) (n : Nat) (x : Ins) (h : RightI n x) : Calls Try.prog 26 #[.agg #[.int .u8 x.1, .int .i64 x.2.1, .int .i64 x.2.2.1, .string x.2.2.2], .int .i64 n] w fun e w' => e = .returned (.bool true) ∧ Below w.heap.size w w' := by
  obtain ⟨op, A, num, text⟩ := x
  obtain ⟨hv, hn, h0, hA, ht⟩ := h
  dsimp only at hv hn h0 hA ht ⊢
  obtain ⟨word, hword, hk⟩ := kind_any op hv
  unfold kindV at hk
  unfold topOf at hA
  by_cases h23 : op = 23
  · subst h23
    have e1 : aOf 23 = 0 := by decide
    have e2 : textOf 23 = 0 := by decide
    have e3 : numOf 23 = true := by decide
    simp only [e1, e2, e3] at hk hA ht
    simp at hA ht
    obtain rfl : A = 0 := by omega
    subst ht
    exact right_0_0_num w n 23 word hword _ _ _ _ hk num
  have e3 : numOf op = false := by unfold numOf; simp [h23]
  obtain rfl := hn e3
  rw [e3] at hk
  by_cases c1 : op = 1 ∨ op = 2 ∨ op = 3 ∨ op = 4 ∨ op = 53
  · have e1 : aOf op = 116 := by unfold aOf; rw [if_pos c1]
    have e2 : textOf op = 0 := by unfold textOf; rw [if_neg (by omega), if_neg (by omega)]
    simp only [e1, e2] at hk hA ht
    simp at hA ht
    subst ht
    exact right_116_0 w n op word hword _ _ _ _ hk A h0 hA
  by_cases c2 : op = 26 ∨ op = 27
  · have e1 : aOf op = 115 := by unfold aOf; rw [if_neg c1, if_pos c2]
    have e2 : textOf op = 0 := by unfold textOf; rw [if_neg (by omega), if_neg (by omega)]
    simp only [e1, e2] at hk hA ht
    simp at hA ht
    subst ht
    exact right_115_0 w n op word hword _ _ _ _ hk A h0 hA
  by_cases c3 : op = 25
  · have e1 : aOf op = 99 := by unfold aOf; rw [if_neg c1, if_neg c2, if_pos (by omega)]
    have e2 : textOf op = 0 := by unfold textOf; rw [if_neg (by omega), if_neg (by omega)]
    simp only [e1, e2] at hk hA ht
    simp at hA ht
    subst ht
    exact right_99_0 w n op word hword _ _ _ _ hk A h0 hA
  by_cases c4 : op = 50 ∨ op = 51
  · have e1 : aOf op = 99 := by unfold aOf; rw [if_neg c1, if_neg c2, if_pos (by omega)]
    have e2 : textOf op = 110 := by unfold textOf; rw [if_neg (by omega), if_pos (by omega)]
    simp only [e1, e2] at hk hA ht
    simp at hA ht
    exact right_99_110 w n op word hword _ _ _ _ hk A h0 hA text ht
  have e1 : aOf op = 0 := by unfold aOf; rw [if_neg c1, if_neg c2, if_neg (by omega)]
  by_cases c5 : op = 56
  · have e2 : textOf op = 110 := by unfold textOf; rw [if_neg (by omega), if_pos (by omega)]
    simp only [e1, e2] at hk hA ht
    simp at hA ht
    obtain rfl : A = 0 := by omega
    exact right_0_110 w n op word hword _ _ _ _ hk text ht
  by_cases c6 : op = 24
  · have e2 : textOf op = 120 := by unfold textOf; rw [if_pos c6]
    simp only [e1, e2] at hk hA ht
    simp at hA ht
    obtain rfl : A = 0 := by omega
    exact right_0_120 w n op word hword _ _ _ _ hk text ht
  have e2 : textOf op = 0 := by unfold textOf; rw [if_neg (by omega), if_neg (by omega)]
  simp only [e1, e2] at hk hA ht
  simp at hA ht
  obtain rfl : A = 0 := by omega
  subst ht
  exact right_0_0 w n op word hword _ _ _ _ hk
end Go.Proofs.Ytkpgnopimnamfaa
