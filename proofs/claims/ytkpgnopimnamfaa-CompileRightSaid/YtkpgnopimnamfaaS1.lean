/- check.Slots: enter. -/
import Derived.Test.YtkpgnopimnamfaaS0
namespace Go.Proofs.Ytkpgnopimnamfaa
open Go.ChangeShapes Go.WideShapes Go.ChangeAt Go.RowKit
theorem cell_one (w : World) (B : Nat) (v : Int) (hB : w.heap.size = B) : ∀ (j : Nat) (u : Value), [Value.int .i64 v][j]? = some u → (w.alloc (.cells #[.int .i64 v] 3)).cell? ((⟨B, 0, none⟩ : Addr).add j) = some u := by
  intro j u hu
  subst hB
  have hj : j < 1 := (List.getElem?_eq_some_iff.1 hu).1
  match j, hj, hu with
  | 0, _, hu => simp at hu; subst hu; simp [Addr.add]
theorem one_one (v : Int) : ∀ u ∈ [Value.int .i64 v], u.oneCell' = true := by
  intro u hu; simp at hu; subst hu; rfl
set_option maxRecDepth 100000 in
set_option maxHeartbeats 1000000 in
theorem enter_any (w : World) (pa : Option Addr) (cap : Nat) (T : List Tw) (bt H bs bm bo bn bq be bw : Nat) (ho : OrdS bt H bs bm bo bn bq be bw) (made next : Nat) (outs : List Int) (L : Seen)
    (hF : SF w pa cap T bt H bs bm bo bn bq be bw) (hV : SV w bm bo bn bq made outs next 0) (hM : MapAt keyS w H (mv L)) (name : ByteArray) (hmd : made ≤ 5000) (hol : outs.length ≤ 5000) :
    Calls Try.prog 17 #[.string name, pt bs, pt bq, pt bm, pt bo] w fun e w' => e = .returned (.tuple #[]) ∧ SV w' bm bo bn bq (made + 1) (outs ++ [(made : Int)]) next (entF L made name) ∧ MapAt keyS w' H (mv L) ∧ Sw bt w w' := by
  obtain ⟨i0, hi, hz0, hz1, hz2⟩ := info_parts info3
  have HF := Lib.hid hF; have HV := Lib.hid hV; have HO := Lib.hid ho; have HMD := Lib.hid hmd; have HOL := Lib.hid hol
  obtain ⟨_, b2, _, _, _⟩ := hF
  obtain ⟨v1, v2, v3, g0, co0, v4, v5, v6⟩ := hV
  have c2 := b2.cell
  have m1 := v1.cell
  have m2 := v1.frozen
  have q1 := v3.frozen
  have q2 := v3.cell
  have o1 := v4.cell
  have V4 := Lib.hid v4
  clear b2 v1 v2 v3 v4 v5 v6 ho hmd hol
  cases hl : li L name with
  | some s =>
    have hlk : lk (mv L) name = some (.int .i64 s) := by rw [lk_mv, hl]; rfl
    have HL := Lib.hid hlk
    have E : Hid (entF L made name = 111) := Lib.hid (by unfold entF; rw [hl]; rfl)
    clear hl hlk
    go_enter Try.func17, Try.ntmps17
    go_upto_region 5 with (refine wpList_look _ rfl (.tmp 9) (.tmp 10) rfl und9 und58 kind_string zero3 _ _ rfl hM name rfl (.int .i64 s) true (by rw [HL.out]; rfl) (by rw [HL.out]; rfl) ?_)
    have X := Lib.hid (HV.out.setFault HO.out 111)
    have SX := Lib.hid ((Sw.refl bt w).set HV.out.2.2.1 (by decide) (by have := HO.out; unfold OrdS at this; omega) (.int .i64 111))
    have MX := Lib.hid (hM.setCell (x := ⟨bq, 0, none⟩) (by have := HO.out; unfold OrdS at this; simp; omega) (.int .i64 111))
    obtain ⟨wc, hwc⟩ : ∃ wc, w.setCell ⟨bq, 0, none⟩ (.int .i64 111) = wc := ⟨_, rfl⟩
    rw [hwc] at X SX MX ⊢
    clear hwc
    clear hM
    clear o1 m1 m2 q1 q2 c2
    have MD : made ≤ 5000 := HMD.out
    obtain ⟨x1, x2, x3, g1, co1, x4, x5, x6⟩ := X.out
    have o1 := x4.cell
    have m1 := x1.cell
    have OWN := Lib.hid (x5.alloc (.cells #[.int .i64 made] 3))
    have X4 := Lib.hid (x4.alloc (.cells #[.int .i64 made] 3))
    have HB : bm + 1 ≤ (wc.alloc (.cells #[.int .i64 made] 3)).heap.size := by have := x1.lt; simp; omega
    have CEL := Lib.hid (cell_one wc wc.heap.size made rfl)
    have ONE := Lib.hid (one_one made)
    have HBB := Lib.hid HB
    clear x1 x2 x3 x4 x5 x6 HB
    go_upto_region 6 with (refine wpList_append_lies _ rfl (.tmp 17) (.tmp 19) 41 rfl (bm + 1) 3 i0 _ 1 8 und41 hi hz0 hz1 hz2 rfl (by decide) (.slice g1 outs.length co1) outs.length (outs.map (Value.int .i64)) rfl OWN.out ⟨wc.heap.size, 0, none⟩ 1 1 [.int .i64 made] rfl rfl CEL.out ONE.out (by decide) (by have := HOL.out; unfold maxLen; omega) (by have := HOL.out; omega) HBB.out _ rfl ?_; intro g cap' w1 hown1 hgrow1 hor1 hlt1; have GR := Lib.hid ((X.out.alloc (.cells #[.int .i64 made] 3)).grow HO.out X4.out made hown1 hgrow1 hor1); have k0 := GR.out.2.2.1; have k1 := GR.out.2.2.2.1; clear hown1 hgrow1 hor1 hlt1)
    have Y := Lib.hid GR.out.1
    have SY := Lib.hid ((SX.out.alloc (by have := HV.out.1.lt; have := HO.out; unfold OrdS at this; omega) _).trans GR.out.2.1)
    have MY := Lib.hid (GR.out.2.2.2.2 _ _ (MX.out.alloc _))
    obtain ⟨w2, hw2⟩ : ∃ w2, w1.setCell ⟨bo, 0, none⟩ (.slice (some ⟨g, 0, none⟩) (outs.length + 1) cap') = w2 := ⟨_, rfl⟩
    rw [hw2] at Y SY MY ⊢
    clear hw2 k0 k1 GR m1 o1
    obtain ⟨y1, _, _, _⟩ := Y.out
    have m1 := y1.cell
    have m2 := y1.frozen
    have Y1 := Lib.hid y1
    clear y1
    go_wp2_with fail
    go_end0
    have e1 : ((made : Int) + 1) = ((made + 1 : Nat) : Int) := by omega
    rw [e1]
    refine ⟨rfl, ?_, ?_, SY.out.set Y1.out (by decide) (by have := HO.out; unfold OrdS at this; omega) _⟩
    · rw [E.out]; exact Y.out.setMade HO.out _
    · exact MY.out.setCell (by have := HO.out; unfold OrdS at this; simp; omega) _
  | none =>
    have hlk : lk (mv L) name = none := by rw [lk_mv, hl]; rfl
    have HL := Lib.hid hlk
    by_cases hmm : made = 100
    · have E : Hid (entF L made name = 2) := Lib.hid (by unfold entF; rw [hl, if_neg (by decide), if_pos hmm])
      have hmm' : (made : Int) = 100 := by omega
      clear hl hlk hmm
      go_enter Try.func17, Try.ntmps17
      go_upto_region 5 with (refine wpList_look _ rfl (.tmp 9) (.tmp 10) rfl und9 und58 kind_string zero3 _ _ rfl hM name rfl (.int .i64 0) false (by rw [HL.out]; rfl) (by rw [HL.out]; rfl) ?_)
      clear hmm'
      have X := Lib.hid (HV.out.setFault HO.out 2)
      have SX := Lib.hid ((Sw.refl bt w).set HV.out.2.2.1 (by decide) (by have := HO.out; unfold OrdS at this; omega) (.int .i64 2))
      have MX := Lib.hid (hM.setCell (x := ⟨bq, 0, none⟩) (by have := HO.out; unfold OrdS at this; simp; omega) (.int .i64 2))
      obtain ⟨wc, hwc⟩ : ∃ wc, w.setCell ⟨bq, 0, none⟩ (.int .i64 2) = wc := ⟨_, rfl⟩
      rw [hwc] at X SX MX ⊢
      clear hwc
      clear hM
      clear o1 m1 m2 q1 q2 c2
      have MD : made ≤ 5000 := HMD.out
      obtain ⟨x1, x2, x3, g1, co1, x4, x5, x6⟩ := X.out
      have o1 := x4.cell
      have m1 := x1.cell
      have OWN := Lib.hid (x5.alloc (.cells #[.int .i64 made] 3))
      have X4 := Lib.hid (x4.alloc (.cells #[.int .i64 made] 3))
      have HB : bm + 1 ≤ (wc.alloc (.cells #[.int .i64 made] 3)).heap.size := by have := x1.lt; simp; omega
      have CEL := Lib.hid (cell_one wc wc.heap.size made rfl)
      have ONE := Lib.hid (one_one made)
      have HBB := Lib.hid HB
      clear x1 x2 x3 x4 x5 x6 HB
      go_upto_region 6 with (refine wpList_append_lies _ rfl (.tmp 17) (.tmp 19) 41 rfl (bm + 1) 3 i0 _ 1 8 und41 hi hz0 hz1 hz2 rfl (by decide) (.slice g1 outs.length co1) outs.length (outs.map (Value.int .i64)) rfl OWN.out ⟨wc.heap.size, 0, none⟩ 1 1 [.int .i64 made] rfl rfl CEL.out ONE.out (by decide) (by have := HOL.out; unfold maxLen; omega) (by have := HOL.out; omega) HBB.out _ rfl ?_; intro g cap' w1 hown1 hgrow1 hor1 hlt1; have GR := Lib.hid ((X.out.alloc (.cells #[.int .i64 made] 3)).grow HO.out X4.out made hown1 hgrow1 hor1); have k0 := GR.out.2.2.1; have k1 := GR.out.2.2.2.1; clear hown1 hgrow1 hor1 hlt1)
      have Y := Lib.hid GR.out.1
      have SY := Lib.hid ((SX.out.alloc (by have := HV.out.1.lt; have := HO.out; unfold OrdS at this; omega) _).trans GR.out.2.1)
      have MY := Lib.hid (GR.out.2.2.2.2 _ _ (MX.out.alloc _))
      obtain ⟨w2, hw2⟩ : ∃ w2, w1.setCell ⟨bo, 0, none⟩ (.slice (some ⟨g, 0, none⟩) (outs.length + 1) cap') = w2 := ⟨_, rfl⟩
      rw [hw2] at Y SY MY ⊢
      clear hw2 k0 k1 GR m1 o1
      obtain ⟨y1, _, _, _⟩ := Y.out
      have m1 := y1.cell
      have m2 := y1.frozen
      have Y1 := Lib.hid y1
      clear y1
      go_wp2_with fail
      go_end0
      have e1 : ((made : Int) + 1) = ((made + 1 : Nat) : Int) := by omega
      rw [e1]
      refine ⟨rfl, ?_, ?_, SY.out.set Y1.out (by decide) (by have := HO.out; unfold OrdS at this; omega) _⟩
      · rw [E.out]; exact Y.out.setMade HO.out _
      · exact MY.out.setCell (by have := HO.out; unfold OrdS at this; simp; omega) _
    · have E : Hid (entF L made name = 0) := Lib.hid (by unfold entF; rw [hl, if_neg (by decide), if_neg hmm])
      have hmm' : ¬ (made : Int) = 100 := by omega
      clear hl hlk hmm
      go_enter Try.func17, Try.ntmps17
      go_upto_region 5 with (refine wpList_look _ rfl (.tmp 9) (.tmp 10) rfl und9 und58 kind_string zero3 _ _ rfl hM name rfl (.int .i64 0) false (by rw [HL.out]; rfl) (by rw [HL.out]; rfl) ?_)
      clear hmm'
      have X := Lib.hid HV.out
      have SX := Lib.hid (Sw.refl bt w)
      have MX := Lib.hid hM
      clear hM
      clear o1 m1 m2 q1 q2 c2
      have MD : made ≤ 5000 := HMD.out
      obtain ⟨x1, x2, x3, g1, co1, x4, x5, x6⟩ := X.out
      have o1 := x4.cell
      have m1 := x1.cell
      have OWN := Lib.hid (x5.alloc (.cells #[.int .i64 made] 3))
      have X4 := Lib.hid (x4.alloc (.cells #[.int .i64 made] 3))
      have HB : bm + 1 ≤ (w.alloc (.cells #[.int .i64 made] 3)).heap.size := by have := x1.lt; simp; omega
      have CEL := Lib.hid (cell_one w w.heap.size made rfl)
      have ONE := Lib.hid (one_one made)
      have HBB := Lib.hid HB
      clear x1 x2 x3 x4 x5 x6 HB
      go_upto_region 6 with (refine wpList_append_lies _ rfl (.tmp 17) (.tmp 19) 41 rfl (bm + 1) 3 i0 _ 1 8 und41 hi hz0 hz1 hz2 rfl (by decide) (.slice g1 outs.length co1) outs.length (outs.map (Value.int .i64)) rfl OWN.out ⟨w.heap.size, 0, none⟩ 1 1 [.int .i64 made] rfl rfl CEL.out ONE.out (by decide) (by have := HOL.out; unfold maxLen; omega) (by have := HOL.out; omega) HBB.out _ rfl ?_; intro g cap' w1 hown1 hgrow1 hor1 hlt1; have GR := Lib.hid ((X.out.alloc (.cells #[.int .i64 made] 3)).grow HO.out X4.out made hown1 hgrow1 hor1); have k0 := GR.out.2.2.1; have k1 := GR.out.2.2.2.1; clear hown1 hgrow1 hor1 hlt1)
      have Y := Lib.hid GR.out.1
      have SY := Lib.hid ((SX.out.alloc (by have := HV.out.1.lt; have := HO.out; unfold OrdS at this; omega) _).trans GR.out.2.1)
      have MY := Lib.hid (GR.out.2.2.2.2 _ _ (MX.out.alloc _))
      obtain ⟨w2, hw2⟩ : ∃ w2, w1.setCell ⟨bo, 0, none⟩ (.slice (some ⟨g, 0, none⟩) (outs.length + 1) cap') = w2 := ⟨_, rfl⟩
      rw [hw2] at Y SY MY ⊢
      clear hw2 k0 k1 GR m1 o1
      obtain ⟨y1, _, _, _⟩ := Y.out
      have m1 := y1.cell
      have m2 := y1.frozen
      have Y1 := Lib.hid y1
      clear y1
      go_wp2_with fail
      go_end0
      have e1 : ((made : Int) + 1) = ((made + 1 : Nat) : Int) := by omega
      rw [e1]
      refine ⟨rfl, ?_, ?_, SY.out.set Y1.out (by decide) (by have := HO.out; unfold OrdS at this; omega) _⟩
      · rw [E.out]; exact Y.out.setMade HO.out _
      · exact MY.out.setCell (by have := HO.out; unfold OrdS at this; simp; omega) _
end Go.Proofs.Ytkpgnopimnamfaa
