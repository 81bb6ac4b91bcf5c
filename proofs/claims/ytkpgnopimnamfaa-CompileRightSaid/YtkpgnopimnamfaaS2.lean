/- check.Slots' walk: its head. -/
import Derived.Test.YtkpgnopimnamfaaS3
import Derived.Deep.CutBlock
namespace Go.Proofs.Ytkpgnopimnamfaa
open Go.ChangeShapes Go.WideShapes Go.ChangeAt Go.RowKit
def SlPost (w : World) (pa : Option Addr) (cap : Nat) (T : List Tw) (bt H bs bm bo bn bq be bw : Nat) (outs : List Int) (a : Nat) (L : Seen) (R : SlR) (e : Ending) (w' : World) : Prop :=
  e = .returned (.tuple #[.string R.1, .int .i64 R.2.1]) ∧ SF w' pa cap T bt H bs bm bo bn bq be bw ∧ SV w' bm bo bn bq R.2.2.1 (outs ++ R.2.2.2.1) (a + R.2.2.2.2.2) R.2.2.2.2.1 ∧
    (∃ L', MapAt keyS w' H L' ∧ (R.2.2.2.2.1 = 0 → L' = mv L)) ∧ Sw bt w w'
/-- Behind the head of a walk. -/
def HeadAt (w : World) (pa : Option Addr) (cap : Nat) (T : List Tw) (bt H bs bm bo bn bq be bw : Nat) (outs : List Int) (a : Nat) (L : Seen) (x : Tw) (h : ByteArray × Int × Nat × Int × Int) (s11 s12 : Value) (wx : World) : Prop :=
  s11 = .string h.1 ∧ s12 = .int .i64 h.2.1 ∧ SF wx pa cap T bt H bs bm bo bn bq be bw ∧ SV wx bm bo bn bq h.2.2.1 (outs ++ [h.2.2.2.1]) a h.2.2.2.2 ∧ MapAt keyS wx H (mv L) ∧
    wx.heap[w.heap.size]? = some (.cells #[.int .u8 x.op, .int .i64 x.kids, .int .i64 x.num, .string x.text] 31 (0, 0)) ∧ Sw bt w wx
theorem Sw.drewN {B : Nat} {w w' : World} (h : Sw B w w') (n : Nat) : Sw B w (w'.drewN n) := ⟨⟨h.1.os, h.1.tape, h.1.output, h.1.size, h.1.block⟩, h.2⟩
theorem hdS_a {op kids num : Int} {text : ByteArray} (h : op = 2 ∨ op = 4) (L : Seen) (made : Nat) : hdS (op, kids, num, text) L made = (text, (made : Int), made + 1, (made : Int), entF L made text) := by unfold hdS; rw [if_pos h]
theorem hdS_b {op kids num : Int} {text : ByteArray} (h : op = 5 ∨ op = 26) (L : Seen) (made : Nat) : hdS (op, kids, num, text) L made = (⟨#[]⟩, -1, made, (li L text).getD 0, if (li L text).isSome = true then 0 else 110) := by
  unfold hdS
  rw [if_neg (by rintro (k | k) <;> (simp only [Tw.op] at k; omega)), if_pos h]
theorem hdS_c {op kids num : Int} {text : ByteArray} (h1 : ¬ (op = 2 ∨ op = 4)) (h2 : ¬ (op = 5 ∨ op = 26)) (L : Seen) (made : Nat) : hdS (op, kids, num, text) L made = (⟨#[]⟩, -1, made, -1, 0) := by
  unfold hdS
  rw [if_neg h1, if_neg h2]
set_option maxRecDepth 100000 in
set_option maxHeartbeats 2000000 in
theorem slot_head (w : World) (pa : Option Addr) (cap : Nat) (T : List Tw) (bt H bs bm bo bn bq be bw : Nat) (ho : OrdS bt H bs bm bo bn bq be bw) (made a : Nat) (outs : List Int) (L : Seen)
    (hF : SF w pa cap T bt H bs bm bo bn bq be bw) (hV : SV w bm bo bn bq made outs a 0) (hM : MapAt keyS w H (mv L)) (op kids num : Int) (text : ByteArray) (ks : List Ro) (hl : Lies T a (Ro.node (op, kids, num, text) ks).flat) (hk : (ks.length : Int) = kids)
    (hmd : made + (Ro.node (op, kids, num, text) ks).flat.length ≤ 5000) (hol : outs.length + (Ro.node (op, kids, num, text) ks).flat.length ≤ 5000) (hT : T.length ≤ 2048)
    (ih : ∀ k ∈ ks, ∀ (w : World) (made a : Nat) (outs : List Int) (L : Seen), SF w pa cap T bt H bs bm bo bn bq be bw → SV w bm bo bn bq made outs a 0 → MapAt keyS w H (mv L) → Lies T a k.flat → made + k.flat.length ≤ 5000 → outs.length + k.flat.length ≤ 5000 →
      Calls Try.prog 18 #[pt bt, pt bn, pt bm, pt be, pt bs, pt bq, pt bo, pt bw] w (SlPost w pa cap T bt H bs bm bo bn bq be bw outs a L (sl L made k))) :
    Calls Try.prog 18 #[pt bt, pt bn, pt bm, pt be, pt bs, pt bq, pt bo, pt bw] w (SlPost w pa cap T bt H bs bm bo bn bq be bw outs a L (sl L made (.node (op, kids, num, text) ks))) := by
  obtain ⟨i0, hi, hz0, hz1, hz2⟩ := info_parts info3
  have hx := hl.head
  have hlt : a < T.length := (List.getElem?_eq_some_iff.1 hx).1
  have hat : a ≤ 5000 := by omega
  have hmd1 : made ≤ 5000 := by omega
  have hol1 : outs.length ≤ 5000 := by omega
  have HF := Lib.hid hF; have HV := Lib.hid hV; have HO := Lib.hid ho; have HMD := Lib.hid hmd; have HOL := Lib.hid hol; have HLL := Lib.hid hl; have HM := Lib.hid hM; have HMD1 := Lib.hid hmd1; have HOL1 := Lib.hid hol1; have HK := Lib.hid hk; have HT := Lib.hid hT; have IH := Lib.hid ih
  obtain ⟨b1, b2, b3, b4, hA⟩ := hF
  obtain ⟨v1, v2, v3, g0, co0, v4, v5, v6⟩ := hV
  have c1 := b1.cell
  have c2 := b2.cell
  have c3 := b3.cell
  have n1 := v2.cell
  have m1 := v1.cell
  have q2 := v3.cell
  have q1 := v3.frozen
  have o1 := v4.cell
  have o2 := v4.frozen
  have V4 := Lib.hid v4
  have V5 := Lib.hid v5
  obtain ⟨A, hpa, hAB, x0, x1, x2, x3⟩ := hA a _ hx
  subst hpa
  have l1 := b1.lt
  have l2 := v1.lt
  have l3 := v2.lt
  have l4 := v3.lt
  have l5 := v4.lt
  have l6 := b3.lt
  have l7 := b2.lt
  clear b1 b2 b3 b4 hA v1 v2 v3 v4 v5 v6 ho hmd hol hl hmd1 hol1 hk hT ih
  dsimp only [Tw.op, Tw.kids, Tw.num, Tw.text] at x0 x1 x2 x3
  have XB : Hid ((w.alloc (.cells #[.int .u8 op, .int .i64 kids, .int .i64 num, .string text] 31)).heap[w.heap.size]? = some (.cells #[.int .u8 op, .int .i64 kids, .int .i64 num, .string text] 31 (0, 0))) := Lib.hid (MapKept.heap_alloc w _).1
  have XS : Hid (Sw bt w (w.alloc (.cells #[.int .u8 op, .int .i64 kids, .int .i64 num, .string text] 31))) := Lib.hid ((Sw.refl bt w).alloc (by omega) _)
  have XF := Lib.hid (HF.out.sw XS.out)
  have XV := Lib.hid (HV.out.alloc (.cells #[.int .u8 op, .int .i64 kids, .int .i64 num, .string text] 31))
  have XM := Lib.hid (hM.alloc (.cells #[.int .u8 op, .int .i64 kids, .int .i64 num, .string text] 31))
  clear hM
  go_enter Try.func18, Try.ntmps18
  go_upto_block 0 with fail
  go_cut [11, 12] (fun s11 s12 wx => HeadAt w (some A) cap T bt H bs bm bo bn bq be bw outs a L (op, kids, num, text) (hdS (op, kids, num, text) L made) s11 s12 wx)
  case first =>
    rcases Decidable.em (op = 2) with n1' | n1'
    · subst n1'
      go_upto_region 7 with fail
      go_quiet (fail)
      go_wp2_with fail
      refine (enter_any _ (some A) cap T bt H bs bm bo bn bq be bw HO.out made a outs L ?f ?v ?m text HMD1.out HOL1.out).mono ?_
      case f => exact XF.out
      case v => exact XV.out
      case m => exact XM.out
      rintro e w1 ⟨rfl, hV1, hM1, hS1⟩
      have HV1 := Lib.hid hV1; have HM1 := Lib.hid hM1; have HS1 := Lib.hid hS1
      clear hV1 hM1 hS1
      go_wp2_with fail
      go_meet
      have hs2 : Sw bt w w1 := (Sw.drewN XS.out _).trans HS1.out
      rw [hdS_a (by decide)]
      exact ⟨rfl, rfl, HF.out.sw hs2, HV1.out, HM1.out, HS1.out.2 _ _ _ _ XB.out (by decide) (by decide) (by decide), hs2⟩
    rcases Decidable.em (op = 4) with n2' | n2'
    · subst n2'
      go_upto_region 7 with fail
      go_quiet (fail)
      go_wp2_with fail
      refine (enter_any _ (some A) cap T bt H bs bm bo bn bq be bw HO.out made a outs L ?f ?v ?m text HMD1.out HOL1.out).mono ?_
      case f => exact XF.out
      case v => exact XV.out
      case m => exact XM.out
      rintro e w1 ⟨rfl, hV1, hM1, hS1⟩
      have HV1 := Lib.hid hV1; have HM1 := Lib.hid hM1; have HS1 := Lib.hid hS1
      clear hV1 hM1 hS1
      go_wp2_with fail
      go_meet
      have hs2 : Sw bt w w1 := (Sw.drewN XS.out _).trans HS1.out
      rw [hdS_a (by decide)]
      exact ⟨rfl, rfl, HF.out.sw hs2, HV1.out, HM1.out, HS1.out.2 _ _ _ _ XB.out (by decide) (by decide) (by decide), hs2⟩
    rcases Decidable.em (op = 5) with n3' | n3'
    · subst n3'
      cases hli : li L text with
      | some s =>
        have hlk : lk (mv L) text = some (.int .i64 s) := by rw [lk_mv, hli]; rfl
        have HL := Lib.hid hlk; have HLI := Lib.hid hli; clear hlk hli
        go_upto_region 12 with (refine wpList_look _ rfl (.tmp 43) (.tmp 45) rfl und9 und58 kind_string zero3 _ _ rfl XM.out text rfl (.int .i64 s) true (by rw [HL.out]; rfl) (by rw [HL.out]; rfl) ?_)
        go_upto_region 14 with fail
        have X := Lib.hid XV.out
        have SX := Lib.hid XS.out
        have MX := Lib.hid XM.out
        have BX := Lib.hid XB.out
        obtain ⟨wc, hwc⟩ : ∃ wc, w.alloc (.cells #[.int .u8 5, .int .i64 kids, .int .i64 num, .string text] 31) = wc := ⟨_, rfl⟩
        rw [hwc] at X SX MX BX ⊢
        clear hwc o1 m1 q1 q2 c2 c1 c3 n1 o2 l1 l2 l3 l4 l5 l6 l7
        obtain ⟨x1, x2, x3, g1, co1, x4, x5, x6⟩ := X.out
        have o1 := x4.cell
        have OWN := Lib.hid (x5.alloc (.cells #[.int .i64 s] 3))
        have X4 := Lib.hid (x4.alloc (.cells #[.int .i64 s] 3))
        have HB : bm + 1 ≤ (wc.alloc (.cells #[.int .i64 s] 3)).heap.size := by have := x1.lt; simp; omega
        have CEL := Lib.hid (cell_one wc wc.heap.size s rfl)
        have ONE := Lib.hid (one_one s)
        have HBB := Lib.hid HB
        have LO := x4.lt
        clear x1 x2 x3 x4 x5 x6 HB
        go_wp2_with (refine wpList_append_lies _ rfl (.tmp 51) (.tmp 53) 41 rfl (bm + 1) 3 i0 _ 1 8 und41 hi hz0 hz1 hz2 rfl (by decide) (.slice g1 outs.length co1) outs.length (outs.map (Value.int .i64)) rfl OWN.out ⟨wc.heap.size, 0, none⟩ 1 1 [.int .i64 s] rfl rfl CEL.out ONE.out (by decide) (by have := HOL1.out; unfold maxLen; omega) (by have := HOL1.out; omega) HBB.out _ rfl ?_; intro g cap' w1 hown1 hgrow1 hor1 hlt1; have GR := Lib.hid ((X.out.alloc (.cells #[.int .i64 s] 3)).grow HO.out X4.out s hown1 hgrow1 hor1); have k0 := GR.out.2.2.1; have k1 := GR.out.2.2.2.1; clear hown1 hgrow1 hor1 hlt1)
        go_meet
        have hs2 : Sw bt wc (w1.setCell ⟨bo, 0, none⟩ (.slice (some ⟨g, 0, none⟩) (outs.length + 1) cap')) := ((Sw.refl bt wc).alloc (by have := HO.out; unfold OrdS at this; omega) _).trans GR.out.2.1
        rw [hdS_b (by decide), HLI.out]
        exact ⟨rfl, rfl, HF.out.sw (SX.out.trans hs2), GR.out.1, GR.out.2.2.2.2 _ _ (MX.out.alloc _), hs2.2 _ _ _ _ BX.out (by decide) (by decide) (by decide), SX.out.trans hs2⟩
      | none =>
        have hlk : lk (mv L) text = none := by rw [lk_mv, hli]; rfl
        have HL := Lib.hid hlk; have HLI := Lib.hid hli; clear hlk hli
        go_upto_region 12 with (refine wpList_look _ rfl (.tmp 43) (.tmp 45) rfl und9 und58 kind_string zero3 _ _ rfl XM.out text rfl (.int .i64 0) false (by rw [HL.out]; rfl) (by rw [HL.out]; rfl) ?_)
        go_upto_region 14 with fail
        have X := Lib.hid ((HV.out.setFault HO.out 110).alloc (.cells #[.int .u8 5, .int .i64 kids, .int .i64 num, .string text] 31))
        have SX := Lib.hid ((((Sw.refl bt w).set HV.out.2.2.1 (by decide) (by have := HO.out; unfold OrdS at this; omega) (.int .i64 110))).alloc (by omega) (.cells #[.int .u8 5, .int .i64 kids, .int .i64 num, .string text] 31))
        have MX := Lib.hid ((HM.out.setCell (x := ⟨bq, 0, none⟩) (by have := HO.out; unfold OrdS at this; simp; omega) (.int .i64 110)).alloc (.cells #[.int .u8 5, .int .i64 kids, .int .i64 num, .string text] 31))
        have BX : Hid (((w.setCell ⟨bq, 0, none⟩ (.int .i64 110)).alloc (.cells #[.int .u8 5, .int .i64 kids, .int .i64 num, .string text] 31)).heap[w.heap.size]? = some (.cells #[.int .u8 5, .int .i64 kids, .int .i64 num, .string text] 31 (0, 0))) := Lib.hid (by
          have hs : (w.setCell ⟨bq, 0, none⟩ (.int .i64 110)).heap.size = w.heap.size := by simp [World.setCell]
          have := (MapKept.heap_alloc (w.setCell ⟨bq, 0, none⟩ (.int .i64 110)) (.cells #[.int .u8 5, .int .i64 kids, .int .i64 num, .string text] 31)).1
          rwa [hs] at this)
        obtain ⟨wc, hwc⟩ : ∃ wc, (w.setCell ⟨bq, 0, none⟩ (.int .i64 110)).alloc (.cells #[.int .u8 5, .int .i64 kids, .int .i64 num, .string text] 31) = wc := ⟨_, rfl⟩
        rw [hwc] at X SX MX BX ⊢
        clear hwc o1 m1 q1 q2 c2 c1 c3 n1 o2 l1 l2 l3 l4 l5 l6 l7
        obtain ⟨x1, x2, x3, g1, co1, x4, x5, x6⟩ := X.out
        have o1 := x4.cell
        have OWN := Lib.hid (x5.alloc (.cells #[.int .i64 0] 3))
        have X4 := Lib.hid (x4.alloc (.cells #[.int .i64 0] 3))
        have HB : bm + 1 ≤ (wc.alloc (.cells #[.int .i64 0] 3)).heap.size := by have := x1.lt; simp; omega
        have CEL := Lib.hid (cell_one wc wc.heap.size 0 rfl)
        have ONE := Lib.hid (one_one 0)
        have HBB := Lib.hid HB
        have LO := x4.lt
        clear x1 x2 x3 x4 x5 x6 HB
        go_wp2_with (refine wpList_append_lies _ rfl (.tmp 51) (.tmp 53) 41 rfl (bm + 1) 3 i0 _ 1 8 und41 hi hz0 hz1 hz2 rfl (by decide) (.slice g1 outs.length co1) outs.length (outs.map (Value.int .i64)) rfl OWN.out ⟨wc.heap.size, 0, none⟩ 1 1 [.int .i64 0] rfl rfl CEL.out ONE.out (by decide) (by have := HOL1.out; unfold maxLen; omega) (by have := HOL1.out; omega) HBB.out _ rfl ?_; intro g cap' w1 hown1 hgrow1 hor1 hlt1; have GR := Lib.hid ((X.out.alloc (.cells #[.int .i64 0] 3)).grow HO.out X4.out 0 hown1 hgrow1 hor1); have k0 := GR.out.2.2.1; have k1 := GR.out.2.2.2.1; clear hown1 hgrow1 hor1 hlt1)
        go_meet
        have hs2 : Sw bt wc (w1.setCell ⟨bo, 0, none⟩ (.slice (some ⟨g, 0, none⟩) (outs.length + 1) cap')) := ((Sw.refl bt wc).alloc (by have := HO.out; unfold OrdS at this; omega) _).trans GR.out.2.1
        rw [hdS_b (by decide), HLI.out]
        exact ⟨rfl, rfl, HF.out.sw (SX.out.trans hs2), GR.out.1, GR.out.2.2.2.2 _ _ (MX.out.alloc _), hs2.2 _ _ _ _ BX.out (by decide) (by decide) (by decide), SX.out.trans hs2⟩
    rcases Decidable.em (op = 26) with n4' | n4'
    · subst n4'
      cases hli : li L text with
      | some s =>
        have hlk : lk (mv L) text = some (.int .i64 s) := by rw [lk_mv, hli]; rfl
        have HL := Lib.hid hlk; have HLI := Lib.hid hli; clear hlk hli
        go_upto_region 12 with (refine wpList_look _ rfl (.tmp 43) (.tmp 45) rfl und9 und58 kind_string zero3 _ _ rfl XM.out text rfl (.int .i64 s) true (by rw [HL.out]; rfl) (by rw [HL.out]; rfl) ?_)
        go_upto_region 14 with fail
        have X := Lib.hid XV.out
        have SX := Lib.hid XS.out
        have MX := Lib.hid XM.out
        have BX := Lib.hid XB.out
        obtain ⟨wc, hwc⟩ : ∃ wc, w.alloc (.cells #[.int .u8 26, .int .i64 kids, .int .i64 num, .string text] 31) = wc := ⟨_, rfl⟩
        rw [hwc] at X SX MX BX ⊢
        clear hwc o1 m1 q1 q2 c2 c1 c3 n1 o2 l1 l2 l3 l4 l5 l6 l7
        obtain ⟨x1, x2, x3, g1, co1, x4, x5, x6⟩ := X.out
        have o1 := x4.cell
        have OWN := Lib.hid (x5.alloc (.cells #[.int .i64 s] 3))
        have X4 := Lib.hid (x4.alloc (.cells #[.int .i64 s] 3))
        have HB : bm + 1 ≤ (wc.alloc (.cells #[.int .i64 s] 3)).heap.size := by have := x1.lt; simp; omega
        have CEL := Lib.hid (cell_one wc wc.heap.size s rfl)
        have ONE := Lib.hid (one_one s)
        have HBB := Lib.hid HB
        have LO := x4.lt
        clear x1 x2 x3 x4 x5 x6 HB
        go_wp2_with (refine wpList_append_lies _ rfl (.tmp 51) (.tmp 53) 41 rfl (bm + 1) 3 i0 _ 1 8 und41 hi hz0 hz1 hz2 rfl (by decide) (.slice g1 outs.length co1) outs.length (outs.map (Value.int .i64)) rfl OWN.out ⟨wc.heap.size, 0, none⟩ 1 1 [.int .i64 s] rfl rfl CEL.out ONE.out (by decide) (by have := HOL1.out; unfold maxLen; omega) (by have := HOL1.out; omega) HBB.out _ rfl ?_; intro g cap' w1 hown1 hgrow1 hor1 hlt1; have GR := Lib.hid ((X.out.alloc (.cells #[.int .i64 s] 3)).grow HO.out X4.out s hown1 hgrow1 hor1); have k0 := GR.out.2.2.1; have k1 := GR.out.2.2.2.1; clear hown1 hgrow1 hor1 hlt1)
        go_meet
        have hs2 : Sw bt wc (w1.setCell ⟨bo, 0, none⟩ (.slice (some ⟨g, 0, none⟩) (outs.length + 1) cap')) := ((Sw.refl bt wc).alloc (by have := HO.out; unfold OrdS at this; omega) _).trans GR.out.2.1
        rw [hdS_b (by decide), HLI.out]
        exact ⟨rfl, rfl, HF.out.sw (SX.out.trans hs2), GR.out.1, GR.out.2.2.2.2 _ _ (MX.out.alloc _), hs2.2 _ _ _ _ BX.out (by decide) (by decide) (by decide), SX.out.trans hs2⟩
      | none =>
        have hlk : lk (mv L) text = none := by rw [lk_mv, hli]; rfl
        have HL := Lib.hid hlk; have HLI := Lib.hid hli; clear hlk hli
        go_upto_region 12 with (refine wpList_look _ rfl (.tmp 43) (.tmp 45) rfl und9 und58 kind_string zero3 _ _ rfl XM.out text rfl (.int .i64 0) false (by rw [HL.out]; rfl) (by rw [HL.out]; rfl) ?_)
        go_upto_region 14 with fail
        have X := Lib.hid ((HV.out.setFault HO.out 110).alloc (.cells #[.int .u8 26, .int .i64 kids, .int .i64 num, .string text] 31))
        have SX := Lib.hid ((((Sw.refl bt w).set HV.out.2.2.1 (by decide) (by have := HO.out; unfold OrdS at this; omega) (.int .i64 110))).alloc (by omega) (.cells #[.int .u8 26, .int .i64 kids, .int .i64 num, .string text] 31))
        have MX := Lib.hid ((HM.out.setCell (x := ⟨bq, 0, none⟩) (by have := HO.out; unfold OrdS at this; simp; omega) (.int .i64 110)).alloc (.cells #[.int .u8 26, .int .i64 kids, .int .i64 num, .string text] 31))
        have BX : Hid (((w.setCell ⟨bq, 0, none⟩ (.int .i64 110)).alloc (.cells #[.int .u8 26, .int .i64 kids, .int .i64 num, .string text] 31)).heap[w.heap.size]? = some (.cells #[.int .u8 26, .int .i64 kids, .int .i64 num, .string text] 31 (0, 0))) := Lib.hid (by
          have hs : (w.setCell ⟨bq, 0, none⟩ (.int .i64 110)).heap.size = w.heap.size := by simp [World.setCell]
          have := (MapKept.heap_alloc (w.setCell ⟨bq, 0, none⟩ (.int .i64 110)) (.cells #[.int .u8 26, .int .i64 kids, .int .i64 num, .string text] 31)).1
          rwa [hs] at this)
        obtain ⟨wc, hwc⟩ : ∃ wc, (w.setCell ⟨bq, 0, none⟩ (.int .i64 110)).alloc (.cells #[.int .u8 26, .int .i64 kids, .int .i64 num, .string text] 31) = wc := ⟨_, rfl⟩
        rw [hwc] at X SX MX BX ⊢
        clear hwc o1 m1 q1 q2 c2 c1 c3 n1 o2 l1 l2 l3 l4 l5 l6 l7
        obtain ⟨x1, x2, x3, g1, co1, x4, x5, x6⟩ := X.out
        have o1 := x4.cell
        have OWN := Lib.hid (x5.alloc (.cells #[.int .i64 0] 3))
        have X4 := Lib.hid (x4.alloc (.cells #[.int .i64 0] 3))
        have HB : bm + 1 ≤ (wc.alloc (.cells #[.int .i64 0] 3)).heap.size := by have := x1.lt; simp; omega
        have CEL := Lib.hid (cell_one wc wc.heap.size 0 rfl)
        have ONE := Lib.hid (one_one 0)
        have HBB := Lib.hid HB
        have LO := x4.lt
        clear x1 x2 x3 x4 x5 x6 HB
        go_wp2_with (refine wpList_append_lies _ rfl (.tmp 51) (.tmp 53) 41 rfl (bm + 1) 3 i0 _ 1 8 und41 hi hz0 hz1 hz2 rfl (by decide) (.slice g1 outs.length co1) outs.length (outs.map (Value.int .i64)) rfl OWN.out ⟨wc.heap.size, 0, none⟩ 1 1 [.int .i64 0] rfl rfl CEL.out ONE.out (by decide) (by have := HOL1.out; unfold maxLen; omega) (by have := HOL1.out; omega) HBB.out _ rfl ?_; intro g cap' w1 hown1 hgrow1 hor1 hlt1; have GR := Lib.hid ((X.out.alloc (.cells #[.int .i64 0] 3)).grow HO.out X4.out 0 hown1 hgrow1 hor1); have k0 := GR.out.2.2.1; have k1 := GR.out.2.2.2.1; clear hown1 hgrow1 hor1 hlt1)
        go_meet
        have hs2 : Sw bt wc (w1.setCell ⟨bo, 0, none⟩ (.slice (some ⟨g, 0, none⟩) (outs.length + 1) cap')) := ((Sw.refl bt wc).alloc (by have := HO.out; unfold OrdS at this; omega) _).trans GR.out.2.1
        rw [hdS_b (by decide), HLI.out]
        exact ⟨rfl, rfl, HF.out.sw (SX.out.trans hs2), GR.out.1, GR.out.2.2.2.2 _ _ (MX.out.alloc _), hs2.2 _ _ _ _ BX.out (by decide) (by decide) (by decide), SX.out.trans hs2⟩
    have N1 := Lib.hid n1'; have N2 := Lib.hid n2'; have N3 := Lib.hid n3'; have N4 := Lib.hid n4'
    go_upto_region 4 with fail
    have X := Lib.hid XV.out
    have SX := Lib.hid XS.out
    have MX := Lib.hid XM.out
    have BX := Lib.hid XB.out
    obtain ⟨wc, hwc⟩ : ∃ wc, w.alloc (.cells #[.int .u8 op, .int .i64 kids, .int .i64 num, .string text] 31) = wc := ⟨_, rfl⟩
    rw [hwc] at X SX MX BX ⊢
    clear hwc o1 m1 q1 q2 c2 c1 c3 n1 o2 l1 l2 l3 l4 l5 l6 l7
    obtain ⟨x1, x2, x3, g1, co1, x4, x5, x6⟩ := X.out
    have o1 := x4.cell
    have OWN := Lib.hid (x5.alloc (.cells #[.int .i64 (-1)] 3))
    have X4 := Lib.hid (x4.alloc (.cells #[.int .i64 (-1)] 3))
    have HB : bm + 1 ≤ (wc.alloc (.cells #[.int .i64 (-1)] 3)).heap.size := by have := x1.lt; simp; omega
    have CEL := Lib.hid (cell_one wc wc.heap.size (-1) rfl)
    have ONE := Lib.hid (one_one (-1))
    have HBB := Lib.hid HB
    have LO := x4.lt
    clear x1 x2 x3 x4 x5 x6 HB
    go_wp2_with (refine wpList_append_lies _ rfl (.tmp 27) (.tmp 28) 41 rfl (bm + 1) 3 i0 _ 1 8 und41 hi hz0 hz1 hz2 rfl (by decide) (.slice g1 outs.length co1) outs.length (outs.map (Value.int .i64)) rfl OWN.out ⟨wc.heap.size, 0, none⟩ 1 1 [.int .i64 (-1)] rfl rfl CEL.out ONE.out (by decide) (by have := HOL1.out; unfold maxLen; omega) (by have := HOL1.out; omega) HBB.out _ rfl ?_; intro g cap' w1 hown1 hgrow1 hor1 hlt1; have GR := Lib.hid ((X.out.alloc (.cells #[.int .i64 (-1)] 3)).grow HO.out X4.out (-1) hown1 hgrow1 hor1); have k0 := GR.out.2.2.1; have k1 := GR.out.2.2.2.1; clear hown1 hgrow1 hor1 hlt1)
    go_meet
    have hs2 : Sw bt wc (w1.setCell ⟨bo, 0, none⟩ (.slice (some ⟨g, 0, none⟩) (outs.length + 1) cap')) := ((Sw.refl bt wc).alloc (by have := HO.out; unfold OrdS at this; omega) _).trans GR.out.2.1
    rw [hdS_c (by have := N1.out; have := N2.out; omega) (by have := N3.out; have := N4.out; omega)]
    exact ⟨rfl, rfl, HF.out.sw (SX.out.trans hs2), GR.out.1, GR.out.2.2.2.2 _ _ (MX.out.alloc _), hs2.2 _ _ _ _ BX.out (by decide) (by decide) (by decide), SX.out.trans hs2⟩
  case rest =>
    clear o1 m1 q1 q2 c2 c1 c3 n1 o2 l1 l2 l3 l4 l5 l6 l7 x0 x1 x2 x3 hi hz0 hz1 hz2 V4 V5
    obtain ⟨nm, sl0, md, o0, f0, hh⟩ : ∃ nm sl0 md o0 f0, hdS (op, kids, num, text) L made = (nm, sl0, md, o0, f0) := ⟨_, _, _, _, _, rfl⟩
    have hmade := hdS_made (op, kids, num, text) L made
    rw [hh] at hcut hmade
    obtain ⟨rfl, rfl, hF1, hV1, hM1, hB1, hS1⟩ := hcut
    dsimp only at hV1 hmade
    have HF1 := Lib.hid hF1; have HV1 := Lib.hid hV1; have HM1 := Lib.hid hM1; have HB1 := Lib.hid hB1; have HS1 := Lib.hid hS1
    have HH := Lib.hid hh; have HMM := Lib.hid hmade
    clear hh hF1 hM1 hB1 hS1 hmade
    obtain ⟨v1, v2, v3, _⟩ := hV1
    have q2 := v3.cell
    have n1 := v2.cell
    have n2 := v2.frozen
    have V2 := Lib.hid v2
    clear v1 v2 v3
    by_cases hf0 : f0 = 0
    · subst hf0
      obtain ⟨j0, hj0, hj1, hj2⟩ := info_parts info9
      go_wp2_with fail
      have ea : ((a : Int) + 1) = ((a + 1 : Nat) : Int) := by omega
      rw [ea]
      have SX := Lib.hid (((Sw.refl bt wc).set V2.out (by decide) (by have := HO.out; unfold OrdS at this; omega) (.int .i64 ((a + 1 : Nat) : Int))))
      have V3 := Lib.hid (HV1.out.setNext HO.out (a + 1))
      have M3 := Lib.hid (HM1.out.setCell (x := ⟨bn, 0, none⟩) (by have := HO.out; unfold OrdS at this; simp; omega) (.int .i64 ((a + 1 : Nat) : Int)))
      obtain ⟨w3, hw3⟩ : ∃ w3, wc.setCell ⟨bn, 0, none⟩ (.int .i64 ((a + 1 : Nat) : Int)) = w3 := ⟨_, rfl⟩
      rw [hw3] at SX V3 M3 ⊢
      have F3 := Lib.hid (HF1.out.sw SX.out)
      have B3 := Lib.hid (SX.out.2 _ _ _ _ HB1.out (by decide) (by decide) (by decide))
      have S3 := Lib.hid (HS1.out.trans SX.out)
      clear hw3 ea q2 n1 n2
      have LT := Lib.hid HLL.out.tail
      have BD : Hid (md + (flats ks).length ≤ 5000 ∧ outs.length + 1 + (flats ks).length ≤ 5000) := Lib.hid (by
        have h1 := HMD.out; have h2 := HOL.out; have h3 := HMM.out
        simp only [Ro.flat, List.length_cons] at h1 h2
        omega)
      go_loopg [15, 16] ks.length (fun gk s15 s16 wr => SlRel w (some A) cap T bt H bs bm bo bn bq be bw outs a L (.cells #[.int .u8 op, .int .i64 kids, .int .i64 num, .string text] 31 (0, 0)) ks md o0 gk s15 s16 wr)
      case atStart =>
        exact ⟨0, md, [], a + 1, 0, [], none, 0, rfl, rfl, World.ownsRow_nil _ _ _ _, F3.out, V3.out, ⟨_, M3.out, fun _ => by simp⟩, B3.out, S3.out, Nat.zero_le _, rfl, by simp, by simp, Nat.zero_le _, by simp, .inl ⟨rfl, by simp [flats], by simp [flats]⟩⟩
      case round =>
        obtain ⟨i, mdr, outr, nx, fr, M, g9, c9, rfl, rfl, hown, hF2, hV2, ⟨L', hM2, hL'⟩, hB2, hS2, hik, rfl, hb1, hb2, hb3, hnew, hcase⟩ := hrel
        have ck1 : wr.cell? ⟨w.heap.size, 1, none⟩ = some (.int .i64 kids) := (cell_block hB2).trans rfl
        have HF2 := Lib.hid hF2; have HV2 := Lib.hid hV2; have HM2 := Lib.hid hM2; have HB2 := Lib.hid hB2; have HS2 := Lib.hid hS2; have HOWN := Lib.hid hown; have HL' := Lib.hid hL'
        have HNEW := Lib.hid hnew; have HB1' := Lib.hid hb1; have HB2' := Lib.hid hb2; have HB3' := Lib.hid hb3; have HIK := Lib.hid hik
        obtain ⟨_, d2, _, d4, _⟩ := hF2
        obtain ⟨_, _, e3, _⟩ := hV2
        have cw := d4.cell
        have cs := d2.cell
        have q2 := e3.cell
        clear hM2 hB2 hS2 hown hL' hnew d2 d4 e3 hb1 hb2 hb3 hik
        have hkk := HK.out
        by_cases hi : i < ks.length
        · have hi' : (i : Int) < kids := by omega
          rcases hcase with ⟨rfl, hnx, hs⟩ | ⟨hfr, hs⟩
          · have HS := Lib.hid hs; have HNX := Lib.hid hnx; clear hs hnx hkk
            obtain ⟨r, hr⟩ : ∃ r, ks[i]? = some r := ⟨_, List.getElem?_eq_some_iff.2 ⟨hi, rfl⟩⟩
            have HR := Lib.hid hr; clear hr
            have hin : i ≤ 5000 := by
              have h1 := BD.out; have h2 := flats_len ks; omega
            go_wp2_with fail
            have hsl := flats_split HR.out
            have hrm : r ∈ ks := List.mem_of_getElem? HR.out
            have hlie : Lies T nx r.flat := by
              have h1 := LT.out
              change Lies T (a + 1) (flats ks) at h1
              rw [hsl] at h1
              rw [HNX.out]
              exact h1.right.left
            have hlen := congrArg List.length hsl
            simp only [List.length_append] at hlen
            have hbd : mdr + r.flat.length ≤ 5000 ∧ (outs ++ o0 :: outr).length + r.flat.length ≤ 5000 := by
              have h1 := BD.out; have h2 := HB1'.out; have h3 := HB2'.out
              simp only [List.length_append, List.length_cons]
              omega
            have hMM : MapAt keyS wr H (mv (L ++ M)) := by rw [← HL'.out (by first | rfl | trivial)]; exact HM2.out
            refine (IH.out r hrm wr mdr nx (outs ++ o0 :: outr) (L ++ M) HF2.out HV2.out hMM hlie hbd.1 hbd.2).mono ?_
            rintro e w' hpost
            obtain ⟨rfl, hF3, hV3, ⟨L3, hM3, hL3⟩, hS3⟩ := hpost
            have hfacts := sl_facts (L ++ M) mdr r
            have hstep := sls_step HR.out HS.out
            have hnew := sl_new (L ++ M) mdr r
            obtain ⟨R, hR⟩ : ∃ R, sl (L ++ M) mdr r = R := ⟨_, rfl⟩
            rw [hR] at hV3 hL3 hfacts hstep hnew ⊢
            obtain ⟨nm', s', md', o', f', ad'⟩ := R
            dsimp only at hV3 hL3 hfacts hstep hnew ⊢
            have HF3 := Lib.hid hF3; have HM3 := Lib.hid hM3; have HL3 := Lib.hid hL3; have HS3 := Lib.hid hS3; have HFACTS := Lib.hid hfacts; have HSTEP := Lib.hid hstep; have HNEW3 := Lib.hid hnew
            have HV3 : Hid (SV w' bm bo bn bq md' (outs ++ o0 :: (outr ++ o')) (nx + ad') f') := Lib.hid (by simpa using hV3)
            have HTK := Lib.hid (congrArg List.length (flats_take HR.out))
            obtain ⟨_, _, y3, _⟩ := hV3
            obtain ⟨_, d2, _, _, _⟩ := hF3
            have q2 := y3.cell
            have cs := d2.cell
            have hi5 : i ≤ 5000 := hin
            clear hR hM3 hL3 hS3 hfacts hstep hnew y3 d2 hlie hrm hlen hsl hbd hMM cw ck1
            cases he : nm'.toList.isEmpty
            · by_cases hf' : f' = 0
              · subst hf'
                have hne : nm' ≠ ⟨#[]⟩ := not_empty_of he
                have HNE := Lib.hid hne; clear hne
                have OWN := Lib.hid ((own_sw HOWN.out HS3.out).alloc (.cells #[.string nm'] 9))
                have CEL := Lib.hid (str_one w' w'.heap.size nm' rfl)
                have ONE := Lib.hid (one_str nm')
                have HBB : Hid (w.heap.size + 1 ≤ (w'.alloc (.cells #[.string nm'] 9)).heap.size) := Lib.hid (by
                  have h1 := HS2.out.size; have h2 := HS3.out.size; have h3 := (Array.getElem?_eq_some_iff.1 HB2.out).1
                  simp; omega)
                have hLM := HL3.out (by first | rfl | trivial)
                have HM4 : Hid (MapAt keyS (w'.alloc (.cells #[.string nm'] 9)) H (mv (L ++ M))) := Lib.hid (by rw [← hLM]; exact HM3.out.alloc _)
                clear hLM
                have HM5' := HB3'.out
                go_upto_region 25 with (refine wpList_append_lies _ rfl (.tmp 80) (.tmp 82) 62 rfl (w.heap.size + 1) 9 j0 _ 1 16 und62 hj0 hj1 hj2.1 hj2.2 rfl (by decide) (.slice g9 M.length c9) M.length (M.map fun p => Value.string p.1) rfl OWN.out ⟨w'.heap.size, 0, none⟩ 1 1 [.string nm'] rfl rfl CEL.out ONE.out (by decide) (by unfold maxLen; omega) (by omega) HBB.out _ rfl ?_; intro g cap' w1 hown1 hgrow1 hor1 hlt1)
                have LT0 := (Array.getElem?_eq_some_iff.1 HB2.out).1
                have LT1 := HS2.out.size; have LT2 := HS3.out.size
                have LB : bt ≤ w.heap.size := by have h1 := HF.out.1.lt; omega
                have hM5 := map_grown9 HM4.out OWN.out hgrow1
                have hS4 : Sw bt w w1 := sw_grown9 ((HS2.out.trans HS3.out).alloc LB (.cells #[.string nm'] 9)) OWN.out hgrow1 (by omega) LB
                have hF4 := HF.out.sw hS4
                have V4 := Lib.hid ((HV3.out.alloc (.cells #[.string nm'] 9)).grown9 OWN.out hgrow1)
                have B4 : Hid (w1.heap[w.heap.size]? = some (.cells #[.int .u8 op, .int .i64 kids, .int .i64 num, .string text] 31 (0, 0))) := Lib.hid (by
                  refine (hgrow1.block w.heap.size (by simp; omega) (fun e => ?_)).trans ((MapKept.heap_alloc w' _).2 _ (by omega) |>.trans (HS3.out.2 _ _ _ _ HB2.out (by decide) (by decide) (by decide)))
                  have := (OWN.out.lt _ e.symm).1
                  omega)
                have hnone : lk (mv (L ++ M)) nm' = none := by rw [lk_mv, HNEW3.out (by first | rfl | trivial) HNE.out]; rfl
                have HN := Lib.hid hnone; have HM5 := Lib.hid hM5; have HF4 := Lib.hid hF4; have HS4 := Lib.hid hS4; have HOWN1 := Lib.hid hown1
                obtain ⟨_, d2, _, _, _⟩ := hF4
                have cs := d2.cell
                clear hnone hM5 hS4 hown1 hgrow1 hor1 hlt1 d2 LT1 LT2 LT0 q2
                go_wp2_with (refine wpList_put _ rfl (.tmp 84) (.tmp 85) (.tmp 86) rfl und9 und58 kind_string H (mv (L ++ M)) rfl HM5.out nm' (.int .i64 s') rfl rfl HN.out ?_; intro w2 hM6 hU6)
                go_roundg (ks.length - (i + 1))
                case measure => omega
                case rel =>
                  have hft := HTK.out
                  simp only [List.length_append] at hft
                  have h1 := HFACTS.out; have h2 := HB1'.out; have h3 := HB2'.out; have h4 := HB3'.out
                  have hO := HO.out
                  have hs6 : Sw bt w1 w2 := by
                    obtain ⟨es, c, hmb, _⟩ := HM5.out
                    exact (Sw.refl bt w1).upd hU6 (by unfold OrdS at hO; omega) hmb
                  have hlt4 : H < w.heap.size + 1 := by have := HM.out.lt; omega
                  have hmv : mv (L ++ M) ++ [(nm', .int .i64 s')] = mv (L ++ (M ++ [(nm', s')])) := by simp [mv]
                  have hsb : seenBy (L ++ M) (nm', s', md', o', 0, ad') = L ++ (M ++ [(nm', s')]) := by unfold seenBy; rw [if_neg HNE.out]; simp
                  refine ⟨i + 1, md', outr ++ o', nx + ad', 0, M ++ [(nm', s')], some ⟨g, 0, none⟩, cap', rfl, by simp, ?_, HF4.out.sw hs6, V4.out.upd hO hU6, ⟨_, hM6, fun _ => hmv⟩, hs6.2 _ _ _ _ B4.out (by decide) (by decide) (by decide), HS4.out.trans hs6, hi, rfl,
                    by omega, by simp only [List.length_append]; omega, by simp; omega, ?_, .inl ⟨rfl, ?_, ?_⟩⟩
                  · have := own_upd HOWN1.out hU6 hlt4
                    simpa using this
                  · intro p hp
                    rcases List.mem_append.1 hp with hp | hp
                    · exact HNEW.out p hp
                    · have : p = (nm', s') := by simpa using hp
                      subst this
                      have h5 := HNEW3.out (by first | rfl | trivial) HNE.out
                      rw [li_app] at h5
                      exact (Option.or_eq_none_iff.1 h5).1
                  · rw [HNX.out, (h1.2.2.2 (by first | rfl | trivial)).2]; omega
                  · have h6 := HSTEP.out.1 (by first | rfl | trivial)
                    rw [hsb] at h6
                    exact h6
              · have hfb : (f' == 0) = false := by simpa using hf'
                have HFN := Lib.hid hf'; clear hf'
                go_wp2_with fail
                clear hfb
                go_roundg (ks.length - (i + 1))
                case measure => omega
                case rel =>
                  have hft := HTK.out
                  simp only [List.length_append] at hft
                  have h1 := HFACTS.out; have h2 := HB1'.out; have h3 := HB2'.out; have h4 := HB3'.out
                  exact ⟨i + 1, md', outr ++ o', nx + ad', f', M, g9, c9, rfl, rfl, own_sw HOWN.out HS3.out, HF3.out, HV3.out, ⟨L3, HM3.out, fun h => absurd h HFN.out⟩, HS3.out.2 _ _ _ _ HB2.out (by decide) (by decide) (by decide), HS2.out.trans HS3.out, hi, rfl,
                    by omega, by simp only [List.length_append]; omega, by omega, HNEW.out, .inr ⟨HFN.out, _, by rw [HNX.out]; omega, HSTEP.out.2 HFN.out⟩⟩
            · have hem : nm' = ⟨#[]⟩ := empty_of he
              have HEM := Lib.hid hem; clear hem
              go_wp2_with fail
              go_roundg (ks.length - (i + 1))
              case measure => omega
              case rel =>
                have hft := HTK.out
                simp only [List.length_append] at hft
                have h1 := HFACTS.out; have h2 := HB1'.out; have h3 := HB2'.out; have h4 := HB3'.out
                refine ⟨i + 1, md', outr ++ o', nx + ad', f', M, g9, c9, rfl, rfl, own_sw HOWN.out HS3.out, HF3.out, HV3.out, ⟨L3, HM3.out, HL3.out⟩, HS3.out.2 _ _ _ _ HB2.out (by decide) (by decide) (by decide), HS2.out.trans HS3.out, hi, rfl,
                    by omega, by simp only [List.length_append]; omega, by omega, HNEW.out, ?_⟩
                by_cases hf' : f' = 0
                · refine .inl ⟨hf', ?_, ?_⟩
                  · rw [HNX.out, (h1.2.2.2 hf').2]; omega
                  · have := HSTEP.out.1 hf'
                    rw [HEM.out] at this
                    exact this
                · exact .inr ⟨hf', _, by rw [HNX.out]; omega, HSTEP.out.2 hf'⟩
          · have HFIN := Lib.hid hs; clear hs hkk
            have hfb : (fr == 0) = false := by simpa using hfr
            clear hfr
            have hm5 : M.length ≤ 5000 := by
              have h1 := HIK.out; have h2 := HB3'.out; have h3 := BD.out; have h4 := flats_len ks; omega
            go_wp2_with fail
            try clear hfb
            obtain ⟨wo, rfl⟩ : ∃ wo : World, wo = wr := ⟨_, rfl⟩
            go_loopg [89] M.length (fun gk s89 wz => SlRel2 w (some A) cap T bt H bs bm bo bn bq be bw (outs ++ o0 :: outr) mdr nx fr L M g9 c9 gk s89 wz)
            case atStart =>
              exact ⟨0, L', by go_num, HOWN.out, HF2.out, HV2.out, HM2.out, fun h => by rw [HL'.out h]; rfl, HS2.out, Nat.zero_le _, rfl⟩
            case round =>
              obtain ⟨j, L4, rfl, hown4, hF4, hV4, hM4, hL4, hS4, hjm, rfl⟩ := hrel
              have HOWN4 := Lib.hid hown4; have HF4 := Lib.hid hF4; have HV4 := Lib.hid hV4; have HM4 := Lib.hid hM4; have HL4 := Lib.hid hL4; have HS4 := Lib.hid hS4; have HJM := Lib.hid hjm
              obtain ⟨_, d2, _, _, _⟩ := hF4
              have cs := d2.cell
              clear hown4 hV4 hM4 hL4 hS4 hjm d2
              by_cases hj : j < M.length
              · obtain ⟨p, hp⟩ : ∃ p, M[j]? = some p := ⟨_, List.getElem?_eq_some_iff.2 ⟨hj, rfl⟩⟩
                obtain ⟨g8, cap8, cur8, e8, hb8, hg8, _⟩ : ∃ g cap cur, (Value.slice g9 M.length c9) = .slice (some ⟨g, 0, none⟩) M.length cap ∧ w.heap.size + 1 ≤ g ∧ wr.heap[g]? = some (.cells cur 9 (0, 0)) ∧ M.length ≤ cap := by
                  rcases HOWN4.out.2 with ⟨_, h0⟩ | ⟨g, cap, cur, e, hb, hg, hc, _⟩
                  · omega
                  · exact ⟨g, cap, cur, e, hb, hg, hc⟩
                cases e8
                have hcell : wr.cell? ⟨g8, j, none⟩ = some (.string p.1) := by
                  have := HOWN4.out.cells rfl j (.string p.1) (by simp [hp])
                  have hadd : (⟨g8, 0, none⟩ : Addr).add j = ⟨g8, j, none⟩ := by unfold Addr.add; split <;> simp_all
                  rwa [hadd] at this
                have HP := Lib.hid hp
                go_wp2_with (refine wpList_del _ rfl (.tmp 93) (.tmp 94) 9 rfl und9 und58 kind_string H L4 rfl HM4.out p.1 rfl ?_; intro w4 hM5 hU5)
                go_roundg (M.length - (j + 1))
                case measure => omega
                case rel =>
                  have hO := HO.out
                  have hFx := HF4.out
                  have hs5 : Sw bt wr w4 := by
                    obtain ⟨es, c, hmb, _⟩ := HM4.out
                    exact (Sw.refl bt wr).upd hU5 (by unfold OrdS at hO; omega) hmb
                  have hlt4 : H < w.heap.size + 1 := by have := HM.out.lt; omega
                  refine ⟨j + 1, _, rfl, own_upd HOWN4.out hU5 hlt4, HF4.out.sw hs5, HV4.out.upd hO hU5, hM5, fun h0 => ?_, HS4.out.trans hs5, hj, rfl⟩
                  rw [HL4.out h0]
                  obtain ⟨hjl, rfl⟩ := List.getElem?_eq_some_iff.1 HP.out
                  rw [List.drop_eq_getElem_cons hjl]
                  exact rm_head L _ _ (HNEW.out _ (List.getElem_mem hjl))
              · obtain ⟨adv, hnx, hsf⟩ := HFIN.out
                have E := Lib.hid (sl_ok HH.out hsf)
                have HNX := Lib.hid hnx
                clear hnx hsf
                have hjj : ¬ (j : Int) < M.length := by omega
                go_wp2_with fail
                go_ret2
                rw [E.out]
                refine ⟨rfl, HF4.out, ?_, ⟨_, HM4.out, fun h0 => ?_⟩, HS4.out⟩
                · have h1 := HV4.out
                  have e : a + (adv + 1) = nx := by have := HNX.out; omega
                  dsimp only
                  rw [e]; exact h1
                · rw [HL4.out h0, List.drop_eq_nil_of_le (by omega), List.append_nil]
        · have hi' : ¬ (i : Int) < kids := by omega
          have HFIN : Hid (∃ adv, nx = a + 1 + adv ∧ sls L md ks = (mdr, outr, fr, adv)) := Lib.hid (by
            rcases hcase with ⟨rfl, hnx, hs⟩ | ⟨_, hs⟩
            · have e : ks.drop i = [] := List.drop_eq_nil_of_le (by omega)
              rw [e] at hs
              exact ⟨_, hnx, by rw [hs]; simp [sls]⟩
            · exact hs)
          clear hcase hkk
          have hm5 : M.length ≤ 5000 := by
            have h1 := HIK.out; have h2 := HB3'.out; have h3 := BD.out; have h4 := flats_len ks; omega
          go_wp2_with fail
          try clear hfb
          obtain ⟨wo, rfl⟩ : ∃ wo : World, wo = wr := ⟨_, rfl⟩
          go_loopg [89] M.length (fun gk s89 wz => SlRel2 w (some A) cap T bt H bs bm bo bn bq be bw (outs ++ o0 :: outr) mdr nx fr L M g9 c9 gk s89 wz)
          case atStart =>
            exact ⟨0, L', by go_num, HOWN.out, HF2.out, HV2.out, HM2.out, fun h => by rw [HL'.out h]; rfl, HS2.out, Nat.zero_le _, rfl⟩
          case round =>
            obtain ⟨j, L4, rfl, hown4, hF4, hV4, hM4, hL4, hS4, hjm, rfl⟩ := hrel
            have HOWN4 := Lib.hid hown4; have HF4 := Lib.hid hF4; have HV4 := Lib.hid hV4; have HM4 := Lib.hid hM4; have HL4 := Lib.hid hL4; have HS4 := Lib.hid hS4; have HJM := Lib.hid hjm
            obtain ⟨_, d2, _, _, _⟩ := hF4
            have cs := d2.cell
            clear hown4 hV4 hM4 hL4 hS4 hjm d2
            by_cases hj : j < M.length
            · obtain ⟨p, hp⟩ : ∃ p, M[j]? = some p := ⟨_, List.getElem?_eq_some_iff.2 ⟨hj, rfl⟩⟩
              obtain ⟨g8, cap8, cur8, e8, hb8, hg8, _⟩ : ∃ g cap cur, (Value.slice g9 M.length c9) = .slice (some ⟨g, 0, none⟩) M.length cap ∧ w.heap.size + 1 ≤ g ∧ wr.heap[g]? = some (.cells cur 9 (0, 0)) ∧ M.length ≤ cap := by
                rcases HOWN4.out.2 with ⟨_, h0⟩ | ⟨g, cap, cur, e, hb, hg, hc, _⟩
                · omega
                · exact ⟨g, cap, cur, e, hb, hg, hc⟩
              cases e8
              have hcell : wr.cell? ⟨g8, j, none⟩ = some (.string p.1) := by
                have := HOWN4.out.cells rfl j (.string p.1) (by simp [hp])
                have hadd : (⟨g8, 0, none⟩ : Addr).add j = ⟨g8, j, none⟩ := by unfold Addr.add; split <;> simp_all
                rwa [hadd] at this
              have HP := Lib.hid hp
              go_wp2_with (refine wpList_del _ rfl (.tmp 93) (.tmp 94) 9 rfl und9 und58 kind_string H L4 rfl HM4.out p.1 rfl ?_; intro w4 hM5 hU5)
              go_roundg (M.length - (j + 1))
              case measure => omega
              case rel =>
                have hO := HO.out
                have hFx := HF4.out
                have hs5 : Sw bt wr w4 := by
                  obtain ⟨es, c, hmb, _⟩ := HM4.out
                  exact (Sw.refl bt wr).upd hU5 (by unfold OrdS at hO; omega) hmb
                have hlt4 : H < w.heap.size + 1 := by have := HM.out.lt; omega
                refine ⟨j + 1, _, rfl, own_upd HOWN4.out hU5 hlt4, HF4.out.sw hs5, HV4.out.upd hO hU5, hM5, fun h0 => ?_, HS4.out.trans hs5, hj, rfl⟩
                rw [HL4.out h0]
                obtain ⟨hjl, rfl⟩ := List.getElem?_eq_some_iff.1 HP.out
                rw [List.drop_eq_getElem_cons hjl]
                exact rm_head L _ _ (HNEW.out _ (List.getElem_mem hjl))
            · obtain ⟨adv, hnx, hsf⟩ := HFIN.out
              have E := Lib.hid (sl_ok HH.out hsf)
              have HNX := Lib.hid hnx
              clear hnx hsf
              have hjj : ¬ (j : Int) < M.length := by omega
              go_wp2_with fail
              go_ret2
              rw [E.out]
              refine ⟨rfl, HF4.out, ?_, ⟨_, HM4.out, fun h0 => ?_⟩, HS4.out⟩
              · have h1 := HV4.out
                have e : a + (adv + 1) = nx := by have := HNX.out; omega
                dsimp only
                rw [e]; exact h1
              · rw [HL4.out h0, List.drop_eq_nil_of_le (by omega), List.append_nil]
    · have E := Lib.hid (sl_fault HH.out hf0 ks)
      go_wp2_with fail
      go_ret2
      rw [E.out]
      exact ⟨rfl, HF1.out, HV1.out, ⟨_, HM1.out, fun _ => rfl⟩, HS1.out⟩
end Go.Proofs.Ytkpgnopimnamfaa
