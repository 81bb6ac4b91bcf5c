/- oper.Binary at the pairs of values that the two statements meet: comparing texts. -/
import Derived.Test.YtibalalijfdkoaaB1
namespace Go.Proofs.Ytibalalijfdkoaa
open Go.ChangeShapes Go.WideShapes Go.ChangeAt Go.RowKit
attribute [local go_sem ↓] Go.wp_at_zero Go.wp_at_succ

set_option maxRecDepth 100000 in
set_option maxHeartbeats 2000000 in
theorem binary_eqt (s t : ByteArray) (c : Int) (hc : orOf (cmpI 0 0) (cmpS s t) = c) (hs : s.size ≤ 4095) (ht : t.size ≤ 4095) (b1 b2 : Nat) (w : World) (h1 : IsN w b1 3 0 s 0 0) (h2 : IsN w b2 3 0 t 0 0) :
    Calls Try.prog 9 #[.int .u8 32, .slice (some ⟨b1, 0, none⟩) 1 1, .slice (some ⟨b2, 0, none⟩) 1 1] w (MakesE 1 (c == 0 : Bool).toNat ⟨#[]⟩ 0 0 w) := by
  have H1 := Lib.hid h1; have H2 := Lib.hid h2
  clear h1 h2
  have HC := Lib.hid hc; clear hc
  have HS := Lib.hid hs; have HT := Lib.hid ht; clear hs ht
  go_enter Try.func9, Try.ntmps9
  go_wp2_with fail
  refine (checked_new (Nice.text s HS.out) (Nice.text t HT.out) _ _ _ H1.out H2.out).mono ?_
  rintro e w1 ⟨rfl, hb1⟩
  have H1' := Lib.hid (H1.out.up hb1); have H2' := Lib.hid (H2.out.up hb1)
  obtain ⟨c0, _, _, _, _⟩ := H1'.out.cells
  obtain ⟨d0, _, _, _, _⟩ := H2'.out.cells
  have HB1 := Lib.hid hb1
  clear hb1
  go_wp2_with fail
  go_cut [9] (fun s9 wx => s9 = .int .i64 3 ∧ Below w1.heap.size w1 wx)
  case first =>
    go_region_held3 (fun w' => w'.cell? ⟨b1, 0, none⟩ = some (.int .u8 3) ∧ w'.cell? ⟨b2, 0, none⟩ = some (.int .u8 3)) (go_keep)
      (first | (go_at_call 18; refine (kinds_any _).mono ?_; rintro e w2 ⟨rfl, hf⟩; have e0 := hf.cell c0; have e1 := hf.cell d0; have e2 : (Instr.lookup 48 (.map (some w1.heap.size)) (.agg #[.int .u8 3, .int .u8 3]) false).run Try.prog w2 = .ok (.int .i64 3) w2 := hf.lookup 3 3 3 rfl; have HF := Lib.hid hf; clear hf))
    go_wp2_with fail
    go_meet
    exact ⟨rfl, HF.out.below⟩
  case rest =>
    obtain ⟨rfl, hb⟩ := hcut
    have J1 := Lib.hid (H1'.out.up hb); have J2 := Lib.hid (H2'.out.up hb)
    have HB2 := Lib.hid (HB1.out.trans (hb.mono HB1.out.size))
    clear hb c0 d0 HB1 H1 H2 H1' H2'
    go_wp2_with fail
    have ho := same_any (Nice.text s HS.out) (Nice.text t HT.out) _ _ _ J1.out J2.out
    rw [HC.out] at ho
    refine ho.mono ?_
    clear ho
    rintro e w3 ⟨rfl, hb⟩
    have HB3 := Lib.hid (HB2.out.trans (hb.mono HB2.out.size))
    clear hb HB2
    have HB2 := HB3; clear HB3
    go_wp2_with fail
    refine (bool_any _ _).mono ?_
    rintro e w3 ⟨b, rfl, hn, hlt, hb⟩
    have HN := Lib.hid hn; have HLT := Lib.hid hlt
    have HB3 := Lib.hid (HB2.out.trans (hb.mono HB2.out.size))
    clear hn hlt hb
    go_wp2_with fail
    go_ret2
    exact ⟨b, rfl, HN.out, Nat.le_trans HB2.out.size HLT.out, HB3.out⟩

set_option maxRecDepth 100000 in
set_option maxHeartbeats 2000000 in
theorem binary_net (s t : ByteArray) (c : Int) (hc : orOf (cmpI 0 0) (cmpS s t) = c) (hs : s.size ≤ 4095) (ht : t.size ≤ 4095) (b1 b2 : Nat) (w : World) (h1 : IsN w b1 3 0 s 0 0) (h2 : IsN w b2 3 0 t 0 0) :
    Calls Try.prog 9 #[.int .u8 33, .slice (some ⟨b1, 0, none⟩) 1 1, .slice (some ⟨b2, 0, none⟩) 1 1] w (MakesE 1 (!(c == 0) : Bool).toNat ⟨#[]⟩ 0 0 w) := by
  have H1 := Lib.hid h1; have H2 := Lib.hid h2
  clear h1 h2
  have HC := Lib.hid hc; clear hc
  have HS := Lib.hid hs; have HT := Lib.hid ht; clear hs ht
  go_enter Try.func9, Try.ntmps9
  go_wp2_with fail
  refine (checked_new (Nice.text s HS.out) (Nice.text t HT.out) _ _ _ H1.out H2.out).mono ?_
  rintro e w1 ⟨rfl, hb1⟩
  have H1' := Lib.hid (H1.out.up hb1); have H2' := Lib.hid (H2.out.up hb1)
  obtain ⟨c0, _, _, _, _⟩ := H1'.out.cells
  obtain ⟨d0, _, _, _, _⟩ := H2'.out.cells
  have HB1 := Lib.hid hb1
  clear hb1
  go_wp2_with fail
  go_cut [9] (fun s9 wx => s9 = .int .i64 3 ∧ Below w1.heap.size w1 wx)
  case first =>
    go_region_held3 (fun w' => w'.cell? ⟨b1, 0, none⟩ = some (.int .u8 3) ∧ w'.cell? ⟨b2, 0, none⟩ = some (.int .u8 3)) (go_keep)
      (first | (go_at_call 18; refine (kinds_any _).mono ?_; rintro e w2 ⟨rfl, hf⟩; have e0 := hf.cell c0; have e1 := hf.cell d0; have e2 : (Instr.lookup 48 (.map (some w1.heap.size)) (.agg #[.int .u8 3, .int .u8 3]) false).run Try.prog w2 = .ok (.int .i64 3) w2 := hf.lookup 3 3 3 rfl; have HF := Lib.hid hf; clear hf))
    go_wp2_with fail
    go_meet
    exact ⟨rfl, HF.out.below⟩
  case rest =>
    obtain ⟨rfl, hb⟩ := hcut
    have J1 := Lib.hid (H1'.out.up hb); have J2 := Lib.hid (H2'.out.up hb)
    have HB2 := Lib.hid (HB1.out.trans (hb.mono HB1.out.size))
    clear hb c0 d0 HB1 H1 H2 H1' H2'
    go_wp2_with fail
    have ho := same_any (Nice.text s HS.out) (Nice.text t HT.out) _ _ _ J1.out J2.out
    rw [HC.out] at ho
    refine ho.mono ?_
    clear ho
    rintro e w3 ⟨rfl, hb⟩
    have HB3 := Lib.hid (HB2.out.trans (hb.mono HB2.out.size))
    clear hb HB2
    have HB2 := HB3; clear HB3
    go_wp2_with fail
    refine (bool_any _ _).mono ?_
    rintro e w3 ⟨b, rfl, hn, hlt, hb⟩
    have HN := Lib.hid hn; have HLT := Lib.hid hlt
    have HB3 := Lib.hid (HB2.out.trans (hb.mono HB2.out.size))
    clear hn hlt hb
    go_wp2_with fail
    go_ret2
    exact ⟨b, rfl, HN.out, Nat.le_trans HB2.out.size HLT.out, HB3.out⟩

set_option maxRecDepth 100000 in
set_option maxHeartbeats 2000000 in
theorem binary_ltt (s t : ByteArray) (c : Int) (hc : orOf (cmpI 0 0) (cmpS s t) = c) (hs : s.size ≤ 4095) (ht : t.size ≤ 4095) (v : Bool) (hv : decide (c < 0) = v) (b1 b2 : Nat) (w : World) (h1 : IsN w b1 3 0 s 0 0) (h2 : IsN w b2 3 0 t 0 0) :
    Calls Try.prog 9 #[.int .u8 34, .slice (some ⟨b1, 0, none⟩) 1 1, .slice (some ⟨b2, 0, none⟩) 1 1] w (MakesE 1 v.toNat ⟨#[]⟩ 0 0 w) := by
  have H1 := Lib.hid h1; have H2 := Lib.hid h2
  clear h1 h2
  have HC := Lib.hid hc; clear hc
  have HS := Lib.hid hs; have HT := Lib.hid ht; clear hs ht
  have HV := Lib.hid hv; clear hv
  go_enter Try.func9, Try.ntmps9
  go_wp2_with fail
  refine (checked_new (Nice.text s HS.out) (Nice.text t HT.out) _ _ _ H1.out H2.out).mono ?_
  rintro e w1 ⟨rfl, hb1⟩
  have H1' := Lib.hid (H1.out.up hb1); have H2' := Lib.hid (H2.out.up hb1)
  obtain ⟨c0, _, _, _, _⟩ := H1'.out.cells
  obtain ⟨d0, _, _, _, _⟩ := H2'.out.cells
  have HB1 := Lib.hid hb1
  clear hb1
  go_wp2_with fail
  go_cut [9] (fun s9 wx => s9 = .int .i64 3 ∧ Below w1.heap.size w1 wx)
  case first =>
    go_region_held3 (fun w' => w'.cell? ⟨b1, 0, none⟩ = some (.int .u8 3) ∧ w'.cell? ⟨b2, 0, none⟩ = some (.int .u8 3)) (go_keep)
      (first | (go_at_call 18; refine (kinds_any _).mono ?_; rintro e w2 ⟨rfl, hf⟩; have e0 := hf.cell c0; have e1 := hf.cell d0; have e2 : (Instr.lookup 48 (.map (some w1.heap.size)) (.agg #[.int .u8 3, .int .u8 3]) false).run Try.prog w2 = .ok (.int .i64 3) w2 := hf.lookup 3 3 3 rfl; have HF := Lib.hid hf; clear hf))
    go_wp2_with fail
    go_meet
    exact ⟨rfl, HF.out.below⟩
  case rest =>
    obtain ⟨rfl, hb⟩ := hcut
    have J1 := Lib.hid (H1'.out.up hb); have J2 := Lib.hid (H2'.out.up hb)
    have HB2 := Lib.hid (HB1.out.trans (hb.mono HB1.out.size))
    clear hb c0 d0 HB1 H1 H2 H1' H2'
    go_wp2_with fail
    have ho := order_any (Nice.text s HS.out) (Nice.text t HT.out) _ _ _ J1.out J2.out
    rw [HC.out] at ho
    refine ho.mono ?_
    clear ho
    rintro e w3 ⟨rfl, hb⟩
    have HB3 := Lib.hid (HB2.out.trans (hb.mono HB2.out.size))
    clear hb HB2
    have HB2 := HB3; clear HB3
    rcases Int.lt_trichotomy c 0 with hlt0 | hlt0 | hlt0
    · obtain rfl : v = true := by have h := HV.out; rw [← h]; simp; omega
      go_wp2_with fail
      refine (bool_any _ _).mono ?_
      rintro e w3 ⟨b, rfl, hn, hlt, hb⟩
      have HN := Lib.hid hn; have HLT := Lib.hid hlt
      have HB3 := Lib.hid (HB2.out.trans (hb.mono HB2.out.size))
      clear hn hlt hb
      go_wp2_with fail
      go_ret2
      exact ⟨b, rfl, HN.out, Nat.le_trans HB2.out.size HLT.out, HB3.out⟩
    · subst hlt0
      obtain rfl : v = false := by have h := HV.out; rw [← h]; rfl
      go_wp2_with fail
      refine (bool_any _ _).mono ?_
      rintro e w3 ⟨b, rfl, hn, hlt, hb⟩
      have HN := Lib.hid hn; have HLT := Lib.hid hlt
      have HB3 := Lib.hid (HB2.out.trans (hb.mono HB2.out.size))
      clear hn hlt hb
      go_wp2_with fail
      go_ret2
      exact ⟨b, rfl, HN.out, Nat.le_trans HB2.out.size HLT.out, HB3.out⟩
    · obtain rfl : v = false := by have h := HV.out; rw [← h]; simp; omega
      have hd : decide (c < 0) = false := by simp; omega
      have he : (c == 0) = false := by rw [beq_eq_false_iff_ne]; omega
      go_wp2_with fail
      refine (bool_any _ _).mono ?_
      rintro e w3 ⟨b, rfl, hn, hlt, hb⟩
      have HN := Lib.hid hn; have HLT := Lib.hid hlt
      have HB3 := Lib.hid (HB2.out.trans (hb.mono HB2.out.size))
      clear hn hlt hb
      go_wp2_with fail
      go_ret2
      exact ⟨b, rfl, HN.out, Nat.le_trans HB2.out.size HLT.out, HB3.out⟩

set_option maxRecDepth 100000 in
set_option maxHeartbeats 2000000 in
theorem binary_let (s t : ByteArray) (c : Int) (hc : orOf (cmpI 0 0) (cmpS s t) = c) (hs : s.size ≤ 4095) (ht : t.size ≤ 4095) (v : Bool) (hv : decide (c ≤ 0) = v) (b1 b2 : Nat) (w : World) (h1 : IsN w b1 3 0 s 0 0) (h2 : IsN w b2 3 0 t 0 0) :
    Calls Try.prog 9 #[.int .u8 35, .slice (some ⟨b1, 0, none⟩) 1 1, .slice (some ⟨b2, 0, none⟩) 1 1] w (MakesE 1 v.toNat ⟨#[]⟩ 0 0 w) := by
  have H1 := Lib.hid h1; have H2 := Lib.hid h2
  clear h1 h2
  have HC := Lib.hid hc; clear hc
  have HS := Lib.hid hs; have HT := Lib.hid ht; clear hs ht
  have HV := Lib.hid hv; clear hv
  go_enter Try.func9, Try.ntmps9
  go_wp2_with fail
  refine (checked_new (Nice.text s HS.out) (Nice.text t HT.out) _ _ _ H1.out H2.out).mono ?_
  rintro e w1 ⟨rfl, hb1⟩
  have H1' := Lib.hid (H1.out.up hb1); have H2' := Lib.hid (H2.out.up hb1)
  obtain ⟨c0, _, _, _, _⟩ := H1'.out.cells
  obtain ⟨d0, _, _, _, _⟩ := H2'.out.cells
  have HB1 := Lib.hid hb1
  clear hb1
  go_wp2_with fail
  go_cut [9] (fun s9 wx => s9 = .int .i64 3 ∧ Below w1.heap.size w1 wx)
  case first =>
    go_region_held3 (fun w' => w'.cell? ⟨b1, 0, none⟩ = some (.int .u8 3) ∧ w'.cell? ⟨b2, 0, none⟩ = some (.int .u8 3)) (go_keep)
      (first | (go_at_call 18; refine (kinds_any _).mono ?_; rintro e w2 ⟨rfl, hf⟩; have e0 := hf.cell c0; have e1 := hf.cell d0; have e2 : (Instr.lookup 48 (.map (some w1.heap.size)) (.agg #[.int .u8 3, .int .u8 3]) false).run Try.prog w2 = .ok (.int .i64 3) w2 := hf.lookup 3 3 3 rfl; have HF := Lib.hid hf; clear hf))
    go_wp2_with fail
    go_meet
    exact ⟨rfl, HF.out.below⟩
  case rest =>
    obtain ⟨rfl, hb⟩ := hcut
    have J1 := Lib.hid (H1'.out.up hb); have J2 := Lib.hid (H2'.out.up hb)
    have HB2 := Lib.hid (HB1.out.trans (hb.mono HB1.out.size))
    clear hb c0 d0 HB1 H1 H2 H1' H2'
    go_wp2_with fail
    have ho := order_any (Nice.text s HS.out) (Nice.text t HT.out) _ _ _ J1.out J2.out
    rw [HC.out] at ho
    refine ho.mono ?_
    clear ho
    rintro e w3 ⟨rfl, hb⟩
    have HB3 := Lib.hid (HB2.out.trans (hb.mono HB2.out.size))
    clear hb HB2
    have HB2 := HB3; clear HB3
    rcases Int.lt_trichotomy c 0 with hlt0 | hlt0 | hlt0
    · obtain rfl : v = true := by have h := HV.out; rw [← h]; simp; omega
      go_wp2_with fail
      refine (bool_any _ _).mono ?_
      rintro e w3 ⟨b, rfl, hn, hlt, hb⟩
      have HN := Lib.hid hn; have HLT := Lib.hid hlt
      have HB3 := Lib.hid (HB2.out.trans (hb.mono HB2.out.size))
      clear hn hlt hb
      go_wp2_with fail
      go_ret2
      exact ⟨b, rfl, HN.out, Nat.le_trans HB2.out.size HLT.out, HB3.out⟩
    · subst hlt0
      obtain rfl : v = true := by have h := HV.out; rw [← h]; rfl
      go_wp2_with fail
      refine (bool_any _ _).mono ?_
      rintro e w3 ⟨b, rfl, hn, hlt, hb⟩
      have HN := Lib.hid hn; have HLT := Lib.hid hlt
      have HB3 := Lib.hid (HB2.out.trans (hb.mono HB2.out.size))
      clear hn hlt hb
      go_wp2_with fail
      go_ret2
      exact ⟨b, rfl, HN.out, Nat.le_trans HB2.out.size HLT.out, HB3.out⟩
    · obtain rfl : v = false := by have h := HV.out; rw [← h]; simp; omega
      have hd : decide (c < 0) = false := by simp; omega
      have he : (c == 0) = false := by rw [beq_eq_false_iff_ne]; omega
      go_wp2_with fail
      refine (bool_any _ _).mono ?_
      rintro e w3 ⟨b, rfl, hn, hlt, hb⟩
      have HN := Lib.hid hn; have HLT := Lib.hid hlt
      have HB3 := Lib.hid (HB2.out.trans (hb.mono HB2.out.size))
      clear hn hlt hb
      go_wp2_with fail
      go_ret2
      exact ⟨b, rfl, HN.out, Nat.le_trans HB2.out.size HLT.out, HB3.out⟩
end Go.Proofs.Ytibalalijfdkoaa
