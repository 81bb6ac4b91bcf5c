/- The walk of the statement OperThree, where both texts are short. -/
import Derived.Test.YtibalalijfdkoaaC3
namespace Go.Proofs.Ytibalalijfdkoaa
open Go.ChangeShapes Go.WideShapes Go.ChangeAt Go.RowKit
attribute [local go_sem ↓] Go.wp_at_zero Go.wp_at_succ

theorem infoV : (Try.prog.info? 23).map (fun i => (i.zero, i.size, i.bytes)) = some (some (.slice none 0 0), 1, 24) := by kernel_rfl
theorem ownsRow_up {w w' : World} {base g n cap : Nat} {xs : List Value} (h : w.ownsRow base 23 1 (.slice (some ⟨g, 0, none⟩) n cap) n xs) (hb : Below w.heap.size w w') : w'.ownsRow base 23 1 (.slice (some ⟨g, 0, none⟩) n cap) n xs := by
  obtain ⟨h1, h2⟩ := h
  refine ⟨h1, ?_⟩
  rcases h2 with h2 | ⟨g', cap', cur, hv, hg, hh, r⟩
  · exact .inl h2
  · exact .inr ⟨g', cap', cur, hv, hg, (hb.block g' (Array.getElem?_eq_some_iff.1 hh).1).trans hh, r⟩
theorem IsN.grown {w w' : World} {b : Nat} {k i : Int} {s : ByteArray} {re im : Nat} (h : IsN w b k i s re im) {base g n cap : Nat} {xs : List Value} (ho : w.ownsRow base 23 1 (.slice (some ⟨g, 0, none⟩) n cap) n xs) (hg : w.grownBy w' (some g)) : IsN w' b k i s re im := by
  refine (hg.block b h.lt fun e => ?_).trans h
  cases e
  rcases ho.2 with ⟨h', _⟩ | ⟨g', cap', cur, h', _, hh, _⟩
  · cases h'
  · cases h'
    have := hh.symm.trans h
    simp at this
theorem Pr.grown {w w' : World} {b1 b2 : Nat} {c : Int} (h : Pr w b1 b2 c) {base g n cap : Nat} {xs : List Value} (ho : w.ownsRow base 23 1 (.slice (some ⟨g, 0, none⟩) n cap) n xs) (hg : w.grownBy w' (some g)) : Pr w' b1 b2 c := by
  rcases h with ⟨x, y, h1, h2, h3, h4⟩ | ⟨s, t, h1, h2, h3, h4, h5⟩
  · exact .inl ⟨x, y, h1.grown ho hg, h2.grown ho hg, h3, h4⟩
  · exact .inr ⟨s, t, h1.grown ho hg, h2.grown ho hg, h3, h4, h5⟩

set_option maxRecDepth 100000 in
set_option maxHeartbeats 8000000 in
theorem three_both (x y : Int) (s t : ByteArray) (hs : s.size ≤ 4095) (ht : t.size ≤ 4095) (w : World) :
    Calls Try.prog 3 #[.int .i64 x, .int .i64 y, .string s, .string t] w fun e w' => e = .returned (.bool true) ∧ Below w.heap.size w w' := by
  have HS := Lib.hid hs; have HT := Lib.hid ht
  have h1 : decide ((s.size : Int) ≤ 4095) = true := by simp; omega
  have h2 : decide ((t.size : Int) ≤ 4095) = true := by simp; omega
  clear hs ht
  have HB0 : Hid (Below w.heap.size w w) := Below.refl _ _
  go_enter Try.func3, Try.ntmps3
  go_wp2_with fail
  refine (int_any _ _).mono ?_
  rintro e w1 ⟨b1, rfl, n1, _, hb1⟩
  have N1 := Lib.hid n1; have HB1 := Lib.hid (HB0.out.trans (hb1.mono HB0.out.size))
  clear n1 hb1 HB0
  go_wp2_with fail
  refine (int_any _ _).mono ?_
  rintro e w2 ⟨b2, rfl, n2, _, hb2⟩
  have PR := Lib.hid (pr_ints x y b1 b2 w2 (N1.out.up hb2) n2); have HB2 := Lib.hid (HB1.out.trans (hb2.mono HB1.out.size))
  clear n2 hb2 N1 HB1
  obtain ⟨W, hW⟩ : ∃ W, w2.alloc (.cells #[.slice (some ⟨b1, 0, none⟩) 1 1, .slice (some ⟨b2, 0, none⟩) 1 1] 23) = W := ⟨_, rfl⟩
  obtain ⟨g0, hg⟩ : ∃ g, w2.heap.size = g := ⟨_, rfl⟩
  have hbl : Below w2.heap.size w2 (w2.alloc (.cells #[.slice (some ⟨b1, 0, none⟩) 1 1, .slice (some ⟨b2, 0, none⟩) 1 1] 23)) := (Below.refl _ _).alloc (Nat.le_refl _) _
  have hown := World.ownsRow_lit (base := w.heap.size) (e := 23) (size := 1) w2 #[.slice (some ⟨b1, 0, none⟩) 1 1, .slice (some ⟨b2, 0, none⟩) 1 1] 2 HB2.out.size (by unfold maxLen; omega) rfl
  have PR1 := Lib.hid (PR.out.up hbl); have HB := Lib.hid (HB2.out.trans (hbl.mono HB2.out.size)); have OW := Lib.hid hown
  clear hbl hown HB2 PR
  rw [hW] at PR1 HB OW
  rw [hg] at OW
  have HW := Lib.hid hW; have HG := Lib.hid hg; clear hW hg
  go_wp2_with fail
  rw [HW.out, HG.out]
  clear HW HG
  refine (text_any s _ HS.out).mono ?_
  rintro e w3 ⟨b3, rfl, n3, _, hb⟩
  have N3 := Lib.hid n3; have PR2 := Lib.hid (PR1.out.up hb); have OW2 := Lib.hid (ownsRow_up OW.out hb); have HB3 := Lib.hid (HB.out.trans (hb.mono HB.out.size))
  clear n3 hb PR1 OW HB
  go_wp2_with fail
  refine (text_any t _ HT.out).mono ?_
  rintro e w4 ⟨b4, rfl, n4, _, hb⟩
  have PT := Lib.hid (pr_texts s t HS.out HT.out b3 b4 w4 (N3.out.up hb) n4); have PR3 := Lib.hid (PR2.out.up hb); have OW3 := Lib.hid (ownsRow_up OW2.out hb); have HB4 := Lib.hid (HB3.out.trans (hb.mono HB3.out.size))
  clear n4 hb N3 PR2 OW2 HB3
  have news := World.alloc_heap_new w4 (.cells #[.slice (some ⟨b3, 0, none⟩) 1 1, .slice (some ⟨b4, 0, none⟩) 1 1] 23)
  have hbl : Below w4.heap.size w4 (w4.alloc (.cells #[.slice (some ⟨b3, 0, none⟩) 1 1, .slice (some ⟨b4, 0, none⟩) 1 1] 23)) := (Below.refl _ _).alloc (Nat.le_refl _) _
  have OWA := Lib.hid (ownsRow_up OW3.out hbl); have PRA := Lib.hid (PR3.out.up hbl); have PTA := Lib.hid (PT.out.up hbl); have HBA := Lib.hid (HB4.out.trans (hbl.mono HB4.out.size))
  have NEWS := Lib.hid news
  clear hbl news OW3 PR3 PT
  obtain ⟨i0, hi, hz0, hz1, hz2⟩ := info_parts infoV
  have HI := Lib.hid hi; have HZ0 := Lib.hid hz0; have HZ1 := Lib.hid hz1; have HZ2 := Lib.hid hz2
  clear hi hz0 hz1 hz2
  go_wp2_with (at_builtin; refine wpList_append_lies _ rfl _ _ _ (by rfl) w.heap.size 23 i0 (.slice none 0 0) 1 24 Try.underlying25 HI.out HZ0.out HZ1.out HZ2.out rfl (by decide) _ _ _ (by rfl) OWA.out _ 2 2 [.slice (some ⟨b3, 0, none⟩) 1 1, .slice (some ⟨b4, 0, none⟩) 1 1] (by rfl) rfl (World.news_of_block NEWS.out) (by simp [Value.oneCell']) (by omega) (by unfold maxLen; omega) (by omega) HBA.out.size (w4.heap.size + 1) (by simp) ?_; intro g cap w5 hown hgrow hat hlt; have HOWN := Lib.hid hown; have HGROW := Lib.hid hgrow; have HAT := Lib.hid hat; clear hown hgrow hat hlt)
  have HR : Hid (Row w5 g 4) := Row.four ((HOWN.out.cellAt 0 (by omega)).trans rfl) ((HOWN.out.cellAt 1 (by omega)).trans rfl) (PRA.out.grown OWA.out HGROW.out) ((HOWN.out.cellAt 2 (by omega)).trans rfl) ((HOWN.out.cellAt 3 (by omega)).trans rfl) (PTA.out.grown OWA.out HGROW.out)
  have HBL : Hid (Below w.heap.size w w5) := HBA.out.grown HGROW.out HBA.out.size (fun k e => (OWA.out.lt k e).1)
  clear HOWN OWA PRA PTA HBA NEWS HGROW HAT HB4 HI HZ0 HZ1 HZ2
  go_loopw [14] (fun i wr => Rel w g 4 i wr) (fun i _ => 4 - (intOf i).toNat)
  case atStart => exact ⟨0, rfl, by omega, rfl, HBL.out, HR.out⟩
  case round =>
    obtain ⟨k, rfl, hk, he, hb, hr⟩ := hrel
    have HE := Lib.hid he; have HB := Lib.hid hb
    clear he hb HBL HR
    by_cases hlt : k < 4
    · have h1 : k + 1 < 4 := by have := HE.out; omega
      obtain ⟨b1, b2, c, c1, c2, pr⟩ := hr k h1 HE.out
      have HR := Lib.hid hr; have PR := Lib.hid pr
      clear hr pr
      obtain ⟨q1, hq1⟩ : ∃ q, decide (c < 0) = q := ⟨_, rfl⟩
      obtain ⟨q2, hq2⟩ : ∃ q, (c == 0) = q := ⟨_, rfl⟩
      obtain ⟨q3, hq3⟩ : ∃ q, decide (0 < c) = q := ⟨_, rfl⟩
      obtain ⟨q4, hq4⟩ : ∃ q, decide (c ≤ 0) = q := ⟨_, rfl⟩
      obtain ⟨q5, hq5⟩ : ∃ q, (!(c == 0)) = q := ⟨_, rfl⟩
      have Q1 := Lib.hid hq1; have Q2 := Lib.hid hq2; have Q3 := Lib.hid hq3; have Q4 := Lib.hid hq4; have Q5 := Lib.hid hq5
      clear hq1 hq2 hq3 hq4 hq5
      have i1 : (0 : Int) ≤ (k : Int) + 1 := by omega
      have i2 : (k : Int) + 1 < 4 := by omega
      have i3 : (k : Int) < 4 := by omega
      have i4 : ((k : Int) + 1).toNat = k + 1 := by omega
      have i5 : IntKind.i64.wrap ((k : Int) + 1) = (k : Int) + 1 := IntWalk.i64_in _ (by omega)
      go_wp2_with fail
      go_cut [15, 16] (fun s1 s2 wx => s1 = .bool q1 ∧ s2 = .bool true ∧ Below wr.heap.size wr wx)
      case first =>
        go_region_held3 (fun w' => w'.cell? ⟨g, k, none⟩ = some (.slice (some ⟨b1, 0, none⟩) 1 1) ∧ w'.cell? ⟨g, k + 1, none⟩ = some (.slice (some ⟨b2, 0, none⟩) 1 1)) (first | go_keep | exact ⟨‹_›, ‹_›⟩)
          (first | (go_at_call 7; refine (ask_lt (w := wr.drew) PR.out Q1.out).mono ?_; rintro e wn ⟨rfl, hb⟩; have e0 := (hb.cell (cell_lt (w := wr.drew) c1)).trans c1; have e1 := (hb.cell (cell_lt (w := wr.drew) c2)).trans c2; have HBB := Lib.hid ((Below.refl wr.heap.size wr).drew.trans hb); clear hb))
        go_wp2_with fail
        go_meet
        exact ⟨rfl, rfl, HBB.out⟩
      case rest =>
      obtain ⟨rfl, rfl, hb⟩ := hcut
      have c1' := (hb.cell (cell_lt c1)).trans c1; have c2' := (hb.cell (cell_lt c2)).trans c2
      have PR' := Lib.hid (PR.out.up hb); have HR' := Lib.hid (HR.out.up hb); have HB' := Lib.hid (HB.out.trans (hb.mono HB.out.size))
      clear hb c1 c2 PR HR HB
      have c1 := c1'; have c2 := c2'; have PR := PR'; have HR := HR'; have HB := HB'
      clear c1' c2' PR' HR' HB'
      obtain ⟨w0, hw0⟩ : ∃ w0 : World, w0 = wc := ⟨_, rfl⟩
      subst hw0
      go_wp2_with fail
      go_cut [17, 18] (fun s1 s2 wx => s1 = .bool q2 ∧ s2 = .bool true ∧ Below w0.heap.size w0 wx)
      case first =>
        go_region_held3 (fun w' => w'.cell? ⟨g, k, none⟩ = some (.slice (some ⟨b1, 0, none⟩) 1 1) ∧ w'.cell? ⟨g, k + 1, none⟩ = some (.slice (some ⟨b2, 0, none⟩) 1 1)) (first | go_keep | exact ⟨‹_›, ‹_›⟩)
          (first | (go_at_call 7; refine (ask_eq (w := w0.drew) PR.out Q2.out).mono ?_; rintro e wn ⟨rfl, hb⟩; have e0 := (hb.cell (cell_lt (w := w0.drew) c1)).trans c1; have e1 := (hb.cell (cell_lt (w := w0.drew) c2)).trans c2; have HBB := Lib.hid ((Below.refl w0.heap.size w0).drew.trans hb); clear hb))
        go_wp2_with fail
        go_meet
        exact ⟨rfl, rfl, HBB.out⟩
      case rest =>
      obtain ⟨rfl, rfl, hb⟩ := hcut
      have c1' := (hb.cell (cell_lt c1)).trans c1; have c2' := (hb.cell (cell_lt c2)).trans c2
      have PR' := Lib.hid (PR.out.up hb); have HR' := Lib.hid (HR.out.up hb); have HB' := Lib.hid (HB.out.trans (hb.mono HB.out.size))
      clear hb c1 c2 PR HR HB
      have c1 := c1'; have c2 := c2'; have PR := PR'; have HR := HR'; have HB := HB'
      clear c1' c2' PR' HR' HB'
      obtain ⟨w1, hw1⟩ : ∃ w1 : World, w1 = wc := ⟨_, rfl⟩
      subst hw1
      go_wp2_with fail
      go_cut [19, 20] (fun s1 s2 wx => s1 = .bool q3 ∧ s2 = .bool true ∧ Below w1.heap.size w1 wx)
      case first =>
        go_region_held3 (fun w' => w'.cell? ⟨g, k, none⟩ = some (.slice (some ⟨b1, 0, none⟩) 1 1) ∧ w'.cell? ⟨g, k + 1, none⟩ = some (.slice (some ⟨b2, 0, none⟩) 1 1)) (first | go_keep | exact ⟨‹_›, ‹_›⟩)
          (first | (go_at_call 7; refine (ask_gt (w := w1.drew) PR.out Q3.out).mono ?_; rintro e wn ⟨rfl, hb⟩; have e0 := (hb.cell (cell_lt (w := w1.drew) c1)).trans c1; have e1 := (hb.cell (cell_lt (w := w1.drew) c2)).trans c2; have HBB := Lib.hid ((Below.refl w1.heap.size w1).drew.trans hb); clear hb))
        go_wp2_with fail
        go_meet
        exact ⟨rfl, rfl, HBB.out⟩
      case rest =>
      obtain ⟨rfl, rfl, hb⟩ := hcut
      have c1' := (hb.cell (cell_lt c1)).trans c1; have c2' := (hb.cell (cell_lt c2)).trans c2
      have PR' := Lib.hid (PR.out.up hb); have HR' := Lib.hid (HR.out.up hb); have HB' := Lib.hid (HB.out.trans (hb.mono HB.out.size))
      clear hb c1 c2 PR HR HB
      have c1 := c1'; have c2 := c2'; have PR := PR'; have HR := HR'; have HB := HB'
      clear c1' c2' PR' HR' HB'
      obtain ⟨w2, hw2⟩ : ∃ w2 : World, w2 = wc := ⟨_, rfl⟩
      subst hw2
      go_wp2_with fail
      go_cut [21, 22] (fun s1 s2 wx => s1 = .bool q4 ∧ s2 = .bool true ∧ Below w2.heap.size w2 wx)
      case first =>
        go_region_held3 (fun w' => w'.cell? ⟨g, k, none⟩ = some (.slice (some ⟨b1, 0, none⟩) 1 1) ∧ w'.cell? ⟨g, k + 1, none⟩ = some (.slice (some ⟨b2, 0, none⟩) 1 1)) (first | go_keep | exact ⟨‹_›, ‹_›⟩)
          (first | (go_at_call 7; refine (ask_le (w := w2.drew) PR.out Q4.out).mono ?_; rintro e wn ⟨rfl, hb⟩; have e0 := (hb.cell (cell_lt (w := w2.drew) c1)).trans c1; have e1 := (hb.cell (cell_lt (w := w2.drew) c2)).trans c2; have HBB := Lib.hid ((Below.refl w2.heap.size w2).drew.trans hb); clear hb))
        go_wp2_with fail
        go_meet
        exact ⟨rfl, rfl, HBB.out⟩
      case rest =>
      obtain ⟨rfl, rfl, hb⟩ := hcut
      have c1' := (hb.cell (cell_lt c1)).trans c1; have c2' := (hb.cell (cell_lt c2)).trans c2
      have PR' := Lib.hid (PR.out.up hb); have HR' := Lib.hid (HR.out.up hb); have HB' := Lib.hid (HB.out.trans (hb.mono HB.out.size))
      clear hb c1 c2 PR HR HB
      have c1 := c1'; have c2 := c2'; have PR := PR'; have HR := HR'; have HB := HB'
      clear c1' c2' PR' HR' HB'
      obtain ⟨w3, hw3⟩ : ∃ w3 : World, w3 = wc := ⟨_, rfl⟩
      subst hw3
      go_wp2_with fail
      go_cut [23, 24] (fun s1 s2 wx => s1 = .bool q5 ∧ s2 = .bool true ∧ Below w3.heap.size w3 wx)
      case first =>
        go_region_held3 (fun w' => w'.cell? ⟨g, k, none⟩ = some (.slice (some ⟨b1, 0, none⟩) 1 1) ∧ w'.cell? ⟨g, k + 1, none⟩ = some (.slice (some ⟨b2, 0, none⟩) 1 1)) (first | go_keep | exact ⟨‹_›, ‹_›⟩)
          (first | (go_at_call 7; refine (ask_ne (w := w3.drew) PR.out Q5.out).mono ?_; rintro e wn ⟨rfl, hb⟩; have e0 := (hb.cell (cell_lt (w := w3.drew) c1)).trans c1; have e1 := (hb.cell (cell_lt (w := w3.drew) c2)).trans c2; have HBB := Lib.hid ((Below.refl w3.heap.size w3).drew.trans hb); clear hb))
        go_wp2_with fail
        go_meet
        exact ⟨rfl, rfl, HBB.out⟩
      case rest =>
      obtain ⟨rfl, rfl, hb⟩ := hcut
      have c1' := (hb.cell (cell_lt c1)).trans c1; have c2' := (hb.cell (cell_lt c2)).trans c2
      have PR' := Lib.hid (PR.out.up hb); have HR' := Lib.hid (HR.out.up hb); have HB' := Lib.hid (HB.out.trans (hb.mono HB.out.size))
      clear hb c1 c2 PR HR HB
      have c1 := c1'; have c2 := c2'; have PR := PR'; have HR := HR'; have HB := HB'
      clear c1' c2' PR' HR' HB'
      obtain ⟨w4, hw4⟩ : ∃ w4 : World, w4 = wc := ⟨_, rfl⟩
      subst hw4
      clear c1 c2 PR i1 i2 i3 i4 i5
      rcases Int.lt_trichotomy c 0 with h | h | h
      · obtain rfl : q1 = true := by have z := Q1.out; rw [← z]; first | (simp; omega) | (subst h; rfl)
        obtain rfl : q2 = false := by have z := Q2.out; rw [← z]; first | (simp; omega) | (subst h; rfl)
        obtain rfl : q3 = false := by have z := Q3.out; rw [← z]; first | (simp; omega) | (subst h; rfl)
        obtain rfl : q4 = true := by have z := Q4.out; rw [← z]; first | (simp; omega) | (subst h; rfl)
        obtain rfl : q5 = true := by have z := Q5.out; rw [← z]; first | (simp; omega) | (subst h; rfl)
        clear Q1 Q2 Q3 Q4 Q5
        go_wp2_with fail
        go_roundw
        case rel => exact ⟨k + 2, by go_num, by omega, by have := HE.out; omega, HB.out, HR.out⟩
        case measure => simp [intOf]; omega
      · obtain rfl : q1 = false := by have z := Q1.out; rw [← z]; first | (simp; omega) | (subst h; rfl)
        obtain rfl : q2 = true := by have z := Q2.out; rw [← z]; first | (simp; omega) | (subst h; rfl)
        obtain rfl : q3 = false := by have z := Q3.out; rw [← z]; first | (simp; omega) | (subst h; rfl)
        obtain rfl : q4 = true := by have z := Q4.out; rw [← z]; first | (simp; omega) | (subst h; rfl)
        obtain rfl : q5 = false := by have z := Q5.out; rw [← z]; first | (simp; omega) | (subst h; rfl)
        clear Q1 Q2 Q3 Q4 Q5
        go_wp2_with fail
        go_roundw
        case rel => exact ⟨k + 2, by go_num, by omega, by have := HE.out; omega, HB.out, HR.out⟩
        case measure => simp [intOf]; omega
      · obtain rfl : q1 = false := by have z := Q1.out; rw [← z]; first | (simp; omega) | (subst h; rfl)
        obtain rfl : q2 = false := by have z := Q2.out; rw [← z]; first | (simp; omega) | (subst h; rfl)
        obtain rfl : q3 = true := by have z := Q3.out; rw [← z]; first | (simp; omega) | (subst h; rfl)
        obtain rfl : q4 = false := by have z := Q4.out; rw [← z]; first | (simp; omega) | (subst h; rfl)
        obtain rfl : q5 = true := by have z := Q5.out; rw [← z]; first | (simp; omega) | (subst h; rfl)
        clear Q1 Q2 Q3 Q4 Q5
        go_wp2_with fail
        go_roundw
        case rel => exact ⟨k + 2, by go_num, by omega, by have := HE.out; omega, HB.out, HR.out⟩
        case measure => simp [intOf]; omega
    · have hge : ¬ k < 4 := hlt
      clear hr
      go_wp2_with fail
      refine (wakes_any _).mono ?_
      rintro e w9 ⟨rfl, hb⟩
      have HB9 := Lib.hid (HB.out.trans (hb.mono HB.out.size))
      clear hb HB
      go_wp2_with fail
      go_ret
      exact ⟨rfl, HB9.out⟩
end Go.Proofs.Ytibalalijfdkoaa
