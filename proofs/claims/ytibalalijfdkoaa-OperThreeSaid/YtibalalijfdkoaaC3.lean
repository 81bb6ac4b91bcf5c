/- The walk of the statement OperThree: for all two numbers and all two texts it returns true, and nothing that was there has turned. -/
import Derived.Test.YtibalalijfdkoaaB6
import Derived.Deep.AppendLies
import Derived.Deep.DeepCutAuto
import Derived.IntWalk
namespace Go.Proofs.Ytibalalijfdkoaa
open Go.ChangeShapes Go.WideShapes Go.ChangeAt Go.RowKit
attribute [local go_sem ↓] Go.wp_at_zero Go.wp_at_succ

/-- The list of what is compared, pair by pair: in block g, n of them. -/
def Row (w : World) (g n : Nat) : Prop :=
  ∀ k, k + 1 < n → k % 2 = 0 → ∃ b1 b2 c, w.cell? ⟨g, k, none⟩ = some (.slice (some ⟨b1, 0, none⟩) 1 1) ∧ w.cell? ⟨g, k + 1, none⟩ = some (.slice (some ⟨b2, 0, none⟩) 1 1) ∧ Pr w b1 b2 c
theorem Row.up {w w' : World} {g n : Nat} (h : Row w g n) (hb : Below w.heap.size w w') : Row w' g n := fun k hk he => by
  obtain ⟨b1, b2, c, h1, h2, h3⟩ := h k hk he
  exact ⟨b1, b2, c, (hb.cell (cell_lt h1)).trans h1, (hb.cell (cell_lt h2)).trans h2, h3.up hb⟩
/-- What holds at the head of each round. -/
def Rel (w : World) (g n : Nat) (i : Value) (wr : World) : Prop := ∃ k : Nat, i = .int .i64 k ∧ k ≤ n ∧ k % 2 = 0 ∧ Below w.heap.size w wr ∧ Row wr g n
theorem Row.two {w : World} {g b1 b2 : Nat} {c : Int} (h1 : w.cell? ⟨g, 0, none⟩ = some (.slice (some ⟨b1, 0, none⟩) 1 1)) (h2 : w.cell? ⟨g, 1, none⟩ = some (.slice (some ⟨b2, 0, none⟩) 1 1)) (h : Pr w b1 b2 c) : Row w g 2 := fun k hk he => by
  obtain rfl : k = 0 := by omega
  exact ⟨b1, b2, c, h1, h2, h⟩
theorem Row.four {w : World} {g b1 b2 b3 b4 : Nat} {c d : Int} (h1 : w.cell? ⟨g, 0, none⟩ = some (.slice (some ⟨b1, 0, none⟩) 1 1)) (h2 : w.cell? ⟨g, 1, none⟩ = some (.slice (some ⟨b2, 0, none⟩) 1 1)) (h : Pr w b1 b2 c)
    (h3 : w.cell? ⟨g, 2, none⟩ = some (.slice (some ⟨b3, 0, none⟩) 1 1)) (h4 : w.cell? ⟨g, 3, none⟩ = some (.slice (some ⟨b4, 0, none⟩) 1 1)) (h' : Pr w b3 b4 d) : Row w g 4 := fun k hk he => by
  have : k = 0 ∨ k = 2 := by omega
  rcases this with rfl | rfl
  · exact ⟨b1, b2, c, h1, h2, h⟩
  · exact ⟨b3, b4, d, h3, h4, h'⟩
theorem ask_lt {w : World} {b1 b2 : Nat} {c : Int} (h : Pr w b1 b2 c) {q : Bool} (hq : decide (c < 0) = q) : Calls Try.prog 7 #[.int .u8 34, .slice (some ⟨b1, 0, none⟩) 1 1, .slice (some ⟨b2, 0, none⟩) 1 1] w fun e w' => e = .returned (.tuple #[.bool q, .bool true]) ∧ Below w.heap.size w w' := by
  subst hq; exact asked_lt h
theorem ask_eq {w : World} {b1 b2 : Nat} {c : Int} (h : Pr w b1 b2 c) {q : Bool} (hq : (c == 0) = q) : Calls Try.prog 7 #[.int .u8 32, .slice (some ⟨b1, 0, none⟩) 1 1, .slice (some ⟨b2, 0, none⟩) 1 1] w fun e w' => e = .returned (.tuple #[.bool q, .bool true]) ∧ Below w.heap.size w w' := by
  subst hq; exact asked_eq h
theorem ask_gt {w : World} {b1 b2 : Nat} {c : Int} (h : Pr w b1 b2 c) {q : Bool} (hq : decide (0 < c) = q) : Calls Try.prog 7 #[.int .u8 34, .slice (some ⟨b2, 0, none⟩) 1 1, .slice (some ⟨b1, 0, none⟩) 1 1] w fun e w' => e = .returned (.tuple #[.bool q, .bool true]) ∧ Below w.heap.size w w' := by
  subst hq; exact asked_gt h
theorem ask_le {w : World} {b1 b2 : Nat} {c : Int} (h : Pr w b1 b2 c) {q : Bool} (hq : decide (c ≤ 0) = q) : Calls Try.prog 7 #[.int .u8 35, .slice (some ⟨b1, 0, none⟩) 1 1, .slice (some ⟨b2, 0, none⟩) 1 1] w fun e w' => e = .returned (.tuple #[.bool q, .bool true]) ∧ Below w.heap.size w w' := by
  subst hq; exact asked_le h
theorem ask_ne {w : World} {b1 b2 : Nat} {c : Int} (h : Pr w b1 b2 c) {q : Bool} (hq : (!(c == 0)) = q) : Calls Try.prog 7 #[.int .u8 33, .slice (some ⟨b1, 0, none⟩) 1 1, .slice (some ⟨b2, 0, none⟩) 1 1] w fun e w' => e = .returned (.tuple #[.bool q, .bool true]) ∧ Below w.heap.size w w' := by
  subst hq; exact asked_ne h

set_option maxRecDepth 100000 in
set_option maxHeartbeats 8000000 in
theorem three_long (x y : Int) (s t : ByteArray) (hs : 4095 < s.size) (w : World) :
    Calls Try.prog 3 #[.int .i64 x, .int .i64 y, .string s, .string t] w fun e w' => e = .returned (.bool true) ∧ Below w.heap.size w w' := by
  have h1 : decide ((s.size : Int) ≤ 4095) = false := by simp; omega
  clear hs
  have HB0 : Hid (Below w.heap.size w w) := Below.refl _ _
  go_enter Try.func3, Try.ntmps3
  go_wp2_with fail
  refine (int_any _ _).mono ?_
  rintro e w1 ⟨b1, rfl, n1, _, hb1⟩
  have N1 := Lib.hid n1; have HB1 := Lib.hid (HB0.out.trans (hb1.mono HB0.out.size))
  clear n1 hb1 HB0
  go_wp2_with fail
  refine (int_any _ _).mono ?_
  rintro e w2 ⟨b2, rfl, n2, _, hb2⟩
  have PR := Lib.hid (pr_ints x y b1 b2 w2 (N1.out.up hb2) n2); have HB2 := Lib.hid (HB1.out.trans (hb2.mono HB1.out.size))
  clear n2 hb2 N1 HB1
  obtain ⟨W, hW⟩ : ∃ W, w2.alloc (.cells #[.slice (some ⟨b1, 0, none⟩) 1 1, .slice (some ⟨b2, 0, none⟩) 1 1] 23) = W := ⟨_, rfl⟩
  obtain ⟨g, hg⟩ : ∃ g, w2.heap.size = g := ⟨_, rfl⟩
  have hal := World.alloc_heap_new w2 (.cells #[.slice (some ⟨b1, 0, none⟩) 1 1, .slice (some ⟨b2, 0, none⟩) 1 1] 23)
  have hbl : Below w2.heap.size w2 (w2.alloc (.cells #[.slice (some ⟨b1, 0, none⟩) 1 1, .slice (some ⟨b2, 0, none⟩) 1 1] 23)) := (Below.refl _ _).alloc (Nat.le_refl _) _
  have HR := Lib.hid (Row.two ((cell_block hal).trans rfl) ((cell_block hal).trans rfl) (PR.out.up hbl)); have HBL := Lib.hid (HB2.out.trans (hbl.mono HB2.out.size))
  clear hal hbl HB2 PR
  rw [hW, hg] at HR
  rw [hW] at HBL
  have HW := Lib.hid hW; have HG := Lib.hid hg; clear hW hg
  go_wp2_with fail
  rw [HW.out, HG.out]
  clear HW HG
  go_loopw [14] (fun i wr => Rel w g 2 i wr) (fun i _ => 2 - (intOf i).toNat)
  case atStart => exact ⟨0, rfl, by omega, rfl, HBL.out, HR.out⟩
  case round =>
    obtain ⟨k, rfl, hk, he, hb, hr⟩ := hrel
    have HE := Lib.hid he; have HB := Lib.hid hb
    clear he hb HBL HR
    by_cases hlt : k < 2
    · have h1 : k + 1 < 2 := by have := HE.out; omega
      obtain ⟨b1, b2, c, c1, c2, pr⟩ := hr k h1 HE.out
      have HR := Lib.hid hr; have PR := Lib.hid pr
      clear hr pr
      obtain ⟨q1, hq1⟩ : ∃ q, decide (c < 0) = q := ⟨_, rfl⟩
      obtain ⟨q2, hq2⟩ : ∃ q, (c == 0) = q := ⟨_, rfl⟩
      obtain ⟨q3, hq3⟩ : ∃ q, decide (0 < c) = q := ⟨_, rfl⟩
      obtain ⟨q4, hq4⟩ : ∃ q, decide (c ≤ 0) = q := ⟨_, rfl⟩
      obtain ⟨q5, hq5⟩ : ∃ q, (!(c == 0)) = q := ⟨_, rfl⟩
      have Q1 := Lib.hid hq1; have Q2 := Lib.hid hq2; have Q3 := Lib.hid hq3; have Q4 := Lib.hid hq4; have Q5 := Lib.hid hq5
      clear hq1 hq2 hq3 hq4 hq5
      have i1 : (0 : Int) ≤ (k : Int) + 1 := by omega
      have i2 : (k : Int) + 1 < 2 := by omega
      have i3 : (k : Int) < 2 := by omega
      have i4 : ((k : Int) + 1).toNat = k + 1 := by omega
      have i5 : IntKind.i64.wrap ((k : Int) + 1) = (k : Int) + 1 := IntWalk.i64_in _ (by omega)
      go_wp2_with fail
      go_cut [15, 16] (fun s1 s2 wx => s1 = .bool q1 ∧ s2 = .bool true ∧ Below wr.heap.size wr wx)
      case first =>
        go_region_held3 (fun w' => w'.cell? ⟨g, k, none⟩ = some (.slice (some ⟨b1, 0, none⟩) 1 1) ∧ w'.cell? ⟨g, k + 1, none⟩ = some (.slice (some ⟨b2, 0, none⟩) 1 1)) (first | go_keep | exact ⟨‹_›, ‹_›⟩)
          (first | (go_at_call 7; refine (ask_lt (w := wr.drew) PR.out Q1.out).mono ?_; rintro e wn ⟨rfl, hb⟩; have e0 := (hb.cell (cell_lt (w := wr.drew) c1)).trans c1; have e1 := (hb.cell (cell_lt (w := wr.drew) c2)).trans c2; have HBB := Lib.hid ((Below.refl wr.heap.size wr).drew.trans hb); clear hb))
        go_wp2_with fail
        go_meet
        exact ⟨rfl, rfl, HBB.out⟩
      case rest =>
      obtain ⟨rfl, rfl, hb⟩ := hcut
      have c1' := (hb.cell (cell_lt c1)).trans c1; have c2' := (hb.cell (cell_lt c2)).trans c2
      have PR' := Lib.hid (PR.out.up hb); have HR' := Lib.hid (HR.out.up hb); have HB' := Lib.hid (HB.out.trans (hb.mono HB.out.size))
      clear hb c1 c2 PR HR HB
      have c1 := c1'; have c2 := c2'; have PR := PR'; have HR := HR'; have HB := HB'
      clear c1' c2' PR' HR' HB'
      obtain ⟨w0, hw0⟩ : ∃ w0 : World, w0 = wc := ⟨_, rfl⟩
      subst hw0
      go_wp2_with fail
      go_cut [17, 18] (fun s1 s2 wx => s1 = .bool q2 ∧ s2 = .bool true ∧ Below w0.heap.size w0 wx)
      case first =>
        go_region_held3 (fun w' => w'.cell? ⟨g, k, none⟩ = some (.slice (some ⟨b1, 0, none⟩) 1 1) ∧ w'.cell? ⟨g, k + 1, none⟩ = some (.slice (some ⟨b2, 0, none⟩) 1 1)) (first | go_keep | exact ⟨‹_›, ‹_›⟩)
          (first | (go_at_call 7; refine (ask_eq (w := w0.drew) PR.out Q2.out).mono ?_; rintro e wn ⟨rfl, hb⟩; have e0 := (hb.cell (cell_lt (w := w0.drew) c1)).trans c1; have e1 := (hb.cell (cell_lt (w := w0.drew) c2)).trans c2; have HBB := Lib.hid ((Below.refl w0.heap.size w0).drew.trans hb); clear hb))
        go_wp2_with fail
        go_meet
        exact ⟨rfl, rfl, HBB.out⟩
      case rest =>
      obtain ⟨rfl, rfl, hb⟩ := hcut
      have c1' := (hb.cell (cell_lt c1)).trans c1; have c2' := (hb.cell (cell_lt c2)).trans c2
      have PR' := Lib.hid (PR.out.up hb); have HR' := Lib.hid (HR.out.up hb); have HB' := Lib.hid (HB.out.trans (hb.mono HB.out.size))
      clear hb c1 c2 PR HR HB
      have c1 := c1'; have c2 := c2'; have PR := PR'; have HR := HR'; have HB := HB'
      clear c1' c2' PR' HR' HB'
      obtain ⟨w1, hw1⟩ : ∃ w1 : World, w1 = wc := ⟨_, rfl⟩
      subst hw1
      go_wp2_with fail
      go_cut [19, 20] (fun s1 s2 wx => s1 = .bool q3 ∧ s2 = .bool true ∧ Below w1.heap.size w1 wx)
      case first =>
        go_region_held3 (fun w' => w'.cell? ⟨g, k, none⟩ = some (.slice (some ⟨b1, 0, none⟩) 1 1) ∧ w'.cell? ⟨g, k + 1, none⟩ = some (.slice (some ⟨b2, 0, none⟩) 1 1)) (first | go_keep | exact ⟨‹_›, ‹_›⟩)
          (first | (go_at_call 7; refine (ask_gt (w := w1.drew) PR.out Q3.out).mono ?_; rintro e wn ⟨rfl, hb⟩; have e0 := (hb.cell (cell_lt (w := w1.drew) c1)).trans c1; have e1 := (hb.cell (cell_lt (w := w1.drew) c2)).trans c2; have HBB := Lib.hid ((Below.refl w1.heap.size w1).drew.trans hb); clear hb))
        go_wp2_with fail
        go_meet
        exact ⟨rfl, rfl, HBB.out⟩
      case rest =>
      obtain ⟨rfl, rfl, hb⟩ := hcut
      have c1' := (hb.cell (cell_lt c1)).trans c1; have c2' := (hb.cell (cell_lt c2)).trans c2
      have PR' := Lib.hid (PR.out.up hb); have HR' := Lib.hid (HR.out.up hb); have HB' := Lib.hid (HB.out.trans (hb.mono HB.out.size))
      clear hb c1 c2 PR HR HB
      have c1 := c1'; have c2 := c2'; have PR := PR'; have HR := HR'; have HB := HB'
      clear c1' c2' PR' HR' HB'
      obtain ⟨w2, hw2⟩ : ∃ w2 : World, w2 = wc := ⟨_, rfl⟩
      subst hw2
      go_wp2_with fail
      go_cut [21, 22] (fun s1 s2 wx => s1 = .bool q4 ∧ s2 = .bool true ∧ Below w2.heap.size w2 wx)
      case first =>
        go_region_held3 (fun w' => w'.cell? ⟨g, k, none⟩ = some (.slice (some ⟨b1, 0, none⟩) 1 1) ∧ w'.cell? ⟨g, k + 1, none⟩ = some (.slice (some ⟨b2, 0, none⟩) 1 1)) (first | go_keep | exact ⟨‹_›, ‹_›⟩)
          (first | (go_at_call 7; refine (ask_le (w := w2.drew) PR.out Q4.out).mono ?_; rintro e wn ⟨rfl, hb⟩; have e0 := (hb.cell (cell_lt (w := w2.drew) c1)).trans c1; have e1 := (hb.cell (cell_lt (w := w2.drew) c2)).trans c2; have HBB := Lib.hid ((Below.refl w2.heap.size w2).drew.trans hb); clear hb))
        go_wp2_with fail
        go_meet
        exact ⟨rfl, rfl, HBB.out⟩
      case rest =>
      obtain ⟨rfl, rfl, hb⟩ := hcut
      have c1' := (hb.cell (cell_lt c1)).trans c1; have c2' := (hb.cell (cell_lt c2)).trans c2
      have PR' := Lib.hid (PR.out.up hb); have HR' := Lib.hid (HR.out.up hb); have HB' := Lib.hid (HB.out.trans (hb.mono HB.out.size))
      clear hb c1 c2 PR HR HB
      have c1 := c1'; have c2 := c2'; have PR := PR'; have HR := HR'; have HB := HB'
      clear c1' c2' PR' HR' HB'
      obtain ⟨w3, hw3⟩ : ∃ w3 : World, w3 = wc := ⟨_, rfl⟩
      subst hw3
      go_wp2_with fail
      go_cut [23, 24] (fun s1 s2 wx => s1 = .bool q5 ∧ s2 = .bool true ∧ Below w3.heap.size w3 wx)
      case first =>
        go_region_held3 (fun w' => w'.cell? ⟨g, k, none⟩ = some (.slice (some ⟨b1, 0, none⟩) 1 1) ∧ w'.cell? ⟨g, k + 1, none⟩ = some (.slice (some ⟨b2, 0, none⟩) 1 1)) (first | go_keep | exact ⟨‹_›, ‹_›⟩)
          (first | (go_at_call 7; refine (ask_ne (w := w3.drew) PR.out Q5.out).mono ?_; rintro e wn ⟨rfl, hb⟩; have e0 := (hb.cell (cell_lt (w := w3.drew) c1)).trans c1; have e1 := (hb.cell (cell_lt (w := w3.drew) c2)).trans c2; have HBB := Lib.hid ((Below.refl w3.heap.size w3).drew.trans hb); clear hb))
        go_wp2_with fail
        go_meet
        exact ⟨rfl, rfl, HBB.out⟩
      case rest =>
      obtain ⟨rfl, rfl, hb⟩ := hcut
      have c1' := (hb.cell (cell_lt c1)).trans c1; have c2' := (hb.cell (cell_lt c2)).trans c2
      have PR' := Lib.hid (PR.out.up hb); have HR' := Lib.hid (HR.out.up hb); have HB' := Lib.hid (HB.out.trans (hb.mono HB.out.size))
      clear hb c1 c2 PR HR HB
      have c1 := c1'; have c2 := c2'; have PR := PR'; have HR := HR'; have HB := HB'
      clear c1' c2' PR' HR' HB'
      obtain ⟨w4, hw4⟩ : ∃ w4 : World, w4 = wc := ⟨_, rfl⟩
      subst hw4
      clear c1 c2 PR i1 i2 i3 i4 i5
      rcases Int.lt_trichotomy c 0 with h | h | h
      · obtain rfl : q1 = true := by have z := Q1.out; rw [← z]; first | (simp; omega) | (subst h; rfl)
        obtain rfl : q2 = false := by have z := Q2.out; rw [← z]; first | (simp; omega) | (subst h; rfl)
        obtain rfl : q3 = false := by have z := Q3.out; rw [← z]; first | (simp; omega) | (subst h; rfl)
        obtain rfl : q4 = true := by have z := Q4.out; rw [← z]; first | (simp; omega) | (subst h; rfl)
        obtain rfl : q5 = true := by have z := Q5.out; rw [← z]; first | (simp; omega) | (subst h; rfl)
        clear Q1 Q2 Q3 Q4 Q5
        go_wp2_with fail
        go_roundw
        case rel => exact ⟨k + 2, by go_num, by omega, by have := HE.out; omega, HB.out, HR.out⟩
        case measure => simp [intOf]; omega
      · obtain rfl : q1 = false := by have z := Q1.out; rw [← z]; first | (simp; omega) | (subst h; rfl)
        obtain rfl : q2 = true := by have z := Q2.out; rw [← z]; first | (simp; omega) | (subst h; rfl)
        obtain rfl : q3 = false := by have z := Q3.out; rw [← z]; first | (simp; omega) | (subst h; rfl)
        obtain rfl : q4 = true := by have z := Q4.out; rw [← z]; first | (simp; omega) | (subst h; rfl)
        obtain rfl : q5 = false := by have z := Q5.out; rw [← z]; first | (simp; omega) | (subst h; rfl)
        clear Q1 Q2 Q3 Q4 Q5
        go_wp2_with fail
        go_roundw
        case rel => exact ⟨k + 2, by go_num, by omega, by have := HE.out; omega, HB.out, HR.out⟩
        case measure => simp [intOf]; omega
      · obtain rfl : q1 = false := by have z := Q1.out; rw [← z]; first | (simp; omega) | (subst h; rfl)
        obtain rfl : q2 = false := by have z := Q2.out; rw [← z]; first | (simp; omega) | (subst h; rfl)
        obtain rfl : q3 = true := by have z := Q3.out; rw [← z]; first | (simp; omega) | (subst h; rfl)
        obtain rfl : q4 = false := by have z := Q4.out; rw [← z]; first | (simp; omega) | (subst h; rfl)
        obtain rfl : q5 = true := by have z := Q5.out; rw [← z]; first | (simp; omega) | (subst h; rfl)
        clear Q1 Q2 Q3 Q4 Q5
        go_wp2_with fail
        go_roundw
        case rel => exact ⟨k + 2, by go_num, by omega, by have := HE.out; omega, HB.out, HR.out⟩
        case measure => simp [intOf]; omega
    · have hge : ¬ k < 2 := hlt
      clear hr
      go_wp2_with fail
      refine (wakes_any _).mono ?_
      rintro e w9 ⟨rfl, hb⟩
      have HB9 := Lib.hid (HB.out.trans (hb.mono HB.out.size))
      clear hb HB
      go_wp2_with fail
      go_ret
      exact ⟨rfl, HB9.out⟩
end Go.Proofs.Ytibalalijfdkoaa
