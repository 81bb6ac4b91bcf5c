/- oper.Binary at the pairs of values that the two statements meet: sums. -/
import Derived.Test.YtibalalijfdkoaaB1
namespace Go.Proofs.Ytibalalijfdkoaa
open Go.ChangeShapes Go.WideShapes Go.ChangeAt Go.RowKit
attribute [local go_sem ↓] Go.wp_at_zero Go.wp_at_succ

theorem by_add (x y z u : Int) (hx : x.natAbs < 2 ^ 53) (hy : y.natAbs < 2 ^ 53) (hz : z.natAbs < 2 ^ 53) (hu : u.natAbs < 2 ^ 53) (hxz : (x + z).natAbs < 2 ^ 53) (hyu : (y + u).natAbs < 2 ^ 53) (w : World) :
    Calls Try.prog 32 #[.complex .f64 (fl x) (fl y), .complex .f64 (fl z) (fl u), .func (.func 33) #[] #[], .func (.func 21) #[] #[]] w (MakesE 4 0 ⟨#[]⟩ (fl (x + z)) (fl (y + u)) w) := by
  have HX := Lib.hid hx; have HY := Lib.hid hy; have HZ := Lib.hid hz; have HU := Lib.hid hu; have HXZ := Lib.hid hxz; have HYU := Lib.hid hyu
  clear hx hy hz hu hxz hyu
  go_enter Try.func32, Try.ntmps32
  go_wp2_with fail
  refine (add_any _ _ _ _ HX.out HY.out HZ.out HU.out HXZ.out HYU.out _).mono ?_
  rintro e w1 ⟨rfl, rfl⟩
  go_wp2_with fail
  refine (number_any _ _ (okw_fl _ HXZ.out) (okw_fl _ HYU.out) _).mono ?_
  rintro e w3 ⟨b, rfl, hn, hlt, hb⟩
  have HN := Lib.hid hn; have HLT := Lib.hid hlt; have HB := Lib.hid hb
  clear hn hlt hb
  go_wp2_with fail
  go_ret2
  exact ⟨b, rfl, HN.out, HLT.out, HB.out⟩
theorem add_23 (w : World) : Calls Try.prog 26 #[.int .i64 2, .int .i64 3] w fun e w' => e = .returned (.int .i64 5) ∧ w = w' := by
  go_enter Try.func26, Try.ntmps26
  go_wp2
  go_ret
  exact ⟨rfl, rfl⟩
theorem sure_23 (g : Nat) (w : World) (hg : w.cell? ⟨g, 0, none⟩ = some (.func (.func 26) #[] #[])) :
    Calls Try.prog 49 #[.int .i64 2, .int .i64 3, .pointer (some ⟨g, 0, none⟩)] w fun e w' => e = .returned (.tuple #[.int .i64 5, .int .i64 0]) ∧ w = w' := by
  go_enter Try.func49, Try.ntmps49
  go_wp2_with fail
  refine (add_23 _).mono ?_
  rintro e w3 ⟨rfl, rfl⟩
  go_wp2
  go_ret2
  exact ⟨rfl, rfl⟩
/-- by, at the sure sum of 2 and 3. -/
theorem by_sure (g : Nat) (w : World) (hg : w.cell? ⟨g, 0, none⟩ = some (.func (.func 26) #[] #[])) :
    Calls Try.prog 24 #[.int .i64 2, .int .i64 3, .func (.func 49) #[] #[.pointer (some ⟨g, 0, none⟩)], .func (.func 5) #[] #[]] w (MakesE 2 5 ⟨#[]⟩ 0 0 w) := by
  have HG := Lib.hid hg; clear hg
  go_enter Try.func24, Try.ntmps24
  go_wp2_with fail
  refine (sure_23 _ _ HG.out).mono ?_
  rintro e w1 ⟨rfl, rfl⟩
  go_wp2_with fail
  refine (int_any _ _).mono ?_
  rintro e w3 ⟨b, rfl, hn, hlt, hb⟩
  have HN := Lib.hid hn; have HLT := Lib.hid hlt; have HB := Lib.hid hb
  clear hn hlt hb
  go_wp2_with fail
  go_ret2
  exact ⟨b, rfl, HN.out, HLT.out, HB.out⟩
theorem sure_any (w : World) : Calls Try.prog 25 #[.func (.func 26) #[] #[]] w fun e w' => e = .returned (.func (.func 49) #[] #[.pointer (some ⟨w.heap.size, 0, none⟩)]) ∧ w.alloc (.cells #[.func (.func 26) #[] #[]] 60) = w' := by
  go_enter Try.func25, Try.ntmps25
  go_wp2
  go_ret
  exact ⟨rfl, rfl⟩

set_option maxRecDepth 100000 in
set_option maxHeartbeats 2000000 in
theorem binary_addz (x y z u : Int) (hx : x.natAbs < 2 ^ 53) (hy : y.natAbs < 2 ^ 53) (hz : z.natAbs < 2 ^ 53) (hu : u.natAbs < 2 ^ 53) (hxz : (x + z).natAbs < 2 ^ 53) (hyu : (y + u).natAbs < 2 ^ 53) (b1 b2 : Nat) (w : World) (h1 : IsN w b1 4 0 ⟨#[]⟩ (fl x) (fl y)) (h2 : IsN w b2 4 0 ⟨#[]⟩ (fl z) (fl u)) :
    Calls Try.prog 9 #[.int .u8 36, .slice (some ⟨b1, 0, none⟩) 1 1, .slice (some ⟨b2, 0, none⟩) 1 1] w (MakesE 4 0 ⟨#[]⟩ (fl (x + z)) (fl (y + u)) w) := by
  have H1 := Lib.hid h1; have H2 := Lib.hid h2
  clear h1 h2
  have HX := Lib.hid hx; have HY := Lib.hid hy; have HZ := Lib.hid hz; have HU := Lib.hid hu; have HXZ := Lib.hid hxz; have HYU := Lib.hid hyu
  clear hx hy hz hu hxz hyu
  go_enter Try.func9, Try.ntmps9
  go_wp2_with fail
  refine (checked_new (Nice.numOf x y HX.out HY.out) (Nice.numOf z u HZ.out HU.out) _ _ _ H1.out H2.out).mono ?_
  rintro e w1 ⟨rfl, hb1⟩
  have H1' := Lib.hid (H1.out.up hb1); have H2' := Lib.hid (H2.out.up hb1)
  obtain ⟨c0, _, _, _, _⟩ := H1'.out.cells
  obtain ⟨d0, _, _, _, _⟩ := H2'.out.cells
  have HB1 := Lib.hid hb1
  clear hb1
  go_wp2_with fail
  go_cut [9] (fun s9 wx => s9 = .int .i64 2 ∧ Below w1.heap.size w1 wx)
  case first =>
    go_region_held3 (fun w' => w'.cell? ⟨b1, 0, none⟩ = some (.int .u8 4) ∧ w'.cell? ⟨b2, 0, none⟩ = some (.int .u8 4)) (go_keep)
      (first | (go_at_call 18; refine (kinds_any _).mono ?_; rintro e w2 ⟨rfl, hf⟩; have e0 := hf.cell c0; have e1 := hf.cell d0; have e2 : (Instr.lookup 48 (.map (some w1.heap.size)) (.agg #[.int .u8 4, .int .u8 4]) false).run Try.prog w2 = .ok (.int .i64 2) w2 := hf.lookup 4 4 2 rfl; have HF := Lib.hid hf; clear hf))
    go_wp2_with fail
    go_meet
    exact ⟨rfl, HF.out.below⟩
  case rest =>
    obtain ⟨rfl, hb⟩ := hcut
    have J1 := Lib.hid (H1'.out.up hb); have J2 := Lib.hid (H2'.out.up hb)
    have HB2 := Lib.hid (HB1.out.trans (hb.mono HB1.out.size))
    clear hb c0 d0 HB1 H1 H2 H1' H2'
    go_wp2_with fail
    refine (complexOf_num _ _ _ _ J1.out).mono ?_
    rintro e w3 ⟨rfl, rfl⟩
    go_wp2_with fail
    refine (complexOf_num _ _ _ _ J2.out).mono ?_
    rintro e w3 ⟨rfl, rfl⟩
    go_wp2_with fail
    refine (by_add _ _ _ _ HX.out HY.out HZ.out HU.out HXZ.out HYU.out _).mono ?_
    rintro e w3 ⟨b, rfl, hn, hlt, hb⟩
    have HN := Lib.hid hn; have HLT := Lib.hid hlt
    have HB3 := Lib.hid (HB2.out.trans (hb.mono HB2.out.size))
    clear hn hlt hb
    go_wp2_with fail
    go_ret2
    exact ⟨b, rfl, HN.out, Nat.le_trans HB2.out.size HLT.out, HB3.out⟩

set_option maxRecDepth 100000 in
set_option maxHeartbeats 2000000 in
theorem binary_addi  (b1 b2 : Nat) (w : World) (h1 : IsN w b1 2 2 ⟨#[]⟩ 0 0) (h2 : IsN w b2 2 3 ⟨#[]⟩ 0 0) :
    Calls Try.prog 9 #[.int .u8 36, .slice (some ⟨b1, 0, none⟩) 1 1, .slice (some ⟨b2, 0, none⟩) 1 1] w (MakesE 2 5 ⟨#[]⟩ 0 0 w) := by
  have H1 := Lib.hid h1; have H2 := Lib.hid h2
  clear h1 h2
  go_enter Try.func9, Try.ntmps9
  go_wp2_with fail
  refine (checked_new (Nice.int 2) (Nice.int 3) _ _ _ H1.out H2.out).mono ?_
  rintro e w1 ⟨rfl, hb1⟩
  have H1' := Lib.hid (H1.out.up hb1); have H2' := Lib.hid (H2.out.up hb1)
  obtain ⟨c0, _, _, _, _⟩ := H1'.out.cells
  obtain ⟨d0, _, _, _, _⟩ := H2'.out.cells
  have HB1 := Lib.hid hb1
  clear hb1
  go_wp2_with fail
  go_cut [9] (fun s9 wx => s9 = .int .i64 1 ∧ Below w1.heap.size w1 wx)
  case first =>
    go_region_held3 (fun w' => w'.cell? ⟨b1, 0, none⟩ = some (.int .u8 2) ∧ w'.cell? ⟨b2, 0, none⟩ = some (.int .u8 2)) (go_keep)
      (first | (go_at_call 18; refine (kinds_any _).mono ?_; rintro e w2 ⟨rfl, hf⟩; have e0 := hf.cell c0; have e1 := hf.cell d0; have e2 : (Instr.lookup 48 (.map (some w1.heap.size)) (.agg #[.int .u8 2, .int .u8 2]) false).run Try.prog w2 = .ok (.int .i64 1) w2 := hf.lookup 2 2 1 rfl; have HF := Lib.hid hf; clear hf))
    go_wp2_with fail
    go_meet
    exact ⟨rfl, HF.out.below⟩
  case rest =>
    obtain ⟨rfl, hb⟩ := hcut
    have J1 := Lib.hid (H1'.out.up hb); have J2 := Lib.hid (H2'.out.up hb)
    have HB2 := Lib.hid (HB1.out.trans (hb.mono HB1.out.size))
    clear hb c0 d0 HB1 H1 H2 H1' H2'
    obtain ⟨_, _, c2, _, _⟩ := J1.out.cells
    obtain ⟨_, _, d2, _, _⟩ := J2.out.cells
    go_wp2_with fail
    go_quiet (fail)
    have HBD : Hid (Below w.heap.size w (wc.drewN nq)) := HB2.out.trans ⟨rfl, rfl, rfl, Nat.le_refl _, fun _ _ => rfl⟩
    generalize wc.drewN nq = wd at HBD ⊢
    clear HB2 c2 d2 J1 J2
    go_wp2_with fail
    refine (sure_any _).mono ?_
    rintro e w3 ⟨rfl, rfl⟩
    have HG := Lib.hid (Boxed.new wd 60 (.func (.func 26) #[] #[])).cell
    have HB2 : Hid (Below w.heap.size w (wd.alloc (.cells #[.func (.func 26) #[] #[]] 60))) := HBD.out.alloc HBD.out.size _
    go_wp2_with fail
    refine (by_sure _ _ HG.out).mono ?_
    rintro e w3 ⟨b, rfl, hn, hlt, hb⟩
    have HN := Lib.hid hn; have HLT := Lib.hid hlt
    have HB3 := Lib.hid (HB2.out.trans (hb.mono HB2.out.size))
    clear hn hlt hb
    go_wp2_with fail
    go_ret2
    exact ⟨b, rfl, HN.out, Nat.le_trans HB2.out.size HLT.out, HB3.out⟩
end Go.Proofs.Ytibalalijfdkoaa
