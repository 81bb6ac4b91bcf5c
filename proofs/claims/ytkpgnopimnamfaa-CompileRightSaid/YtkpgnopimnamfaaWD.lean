/- instr.look and instr.Check. -/
import Derived.Test.YtkpgnopimnamfaaWC
namespace Go.Proofs.Ytkpgnopimnamfaa
open Go.ChangeShapes Go.WideShapes Go.ChangeAt Go.RowKit
theorem make_ints (n : Nat) (hn : n ≤ 10000) (W : World) : (Instr.makeSlice 41 (.int .i64 (n : Int)) (.int .i64 (n : Int))).run Try.prog W = .ok (.slice (some ⟨W.heap.size, 0, none⟩) n n) (W.alloc (.cells (madeCells #[.int .i64 0] n) 3)) := by
  obtain ⟨i0, hi, hz0, hz1, hz2⟩ := info_parts info3
  have hr := run_make (P := Try.prog) W 41 3 i0 _ und41 hi hz0 .i64 .i64 n n (by omega) (by omega) (by rw [hz2]; omega) (by omega)
  rw [hz1, Int.toNat_natCast, Nat.mul_one] at hr
  exact hr
theorem made_list (n : Nat) : (madeCells #[.int .i64 0] n).toList = (List.replicate n (0 : Int)).map (Value.int .i64) := by
  apply List.ext_getElem?
  intro i
  by_cases h : i < n
  · simp [madeCells, h, Nat.mod_one]
  · simp [madeCells, h]
theorem row_new {w : World} {B da n : Nat} (h : w.heap[da]? = some (.cells (madeCells #[.int .i64 0] n) 3 (0, 0))) (hB : B ≤ da) (hn : n ≤ 10000) (D : List Int) (hD : D = List.replicate n 0) :
    w.ownsRow B 3 1 (.slice (some ⟨da, 0, none⟩) D.length n) D.length (D.map (Value.int .i64)) := by
  subst hD
  refine ⟨by simp, .inr ⟨da, n, _, by simp, hB, h, by simp, by unfold maxLen; omega, by simp [size_madeCells], ?_⟩⟩
  rw [made_list, List.length_replicate, Nat.mul_one, ← List.map_take, List.take_of_length_le (by simp)]
def LookAt (w : World) (ca : Option Addr) (cc n : Nat) (v : Value) (wx : World) : Prop :=
  ∃ hw hp H, v = .pointer (some ⟨hw, 0, none⟩) ∧ w.heap.size ≤ H ∧ w.heap.size ≤ hp ∧ WkAt wx w.heap.size hw hp ca cc n H (List.replicate n 0) [] 0 ∧ Below w.heap.size w wx
theorem WkAt.rowAt {w : World} {B hw hp cc n H : Nat} {ca : Option Addr} {D : List Int} {X : List Th} {next : Int} (h : WkAt w B hw hp ca cc n H D X next) :
    ∃ da dc, w.cell? ⟨hw, 1, none⟩ = some (.slice (some ⟨da, 0, none⟩) D.length dc) ∧ B ≤ da ∧ (∀ i v, D[i]? = some v → w.cell? ⟨da, i, none⟩ = some (.int .i64 v)) ∧ (∀ i, w.frozen? ⟨da, i, none⟩ = false) ∧
      (∀ i v, WkAt (w.setCell ⟨da, i, none⟩ (.int .i64 v)) B hw hp ca cc n H (D.set i v) X next) := by
  obtain ⟨da, dc, ao, cap, L, hW, hD, hh⟩ := h
  have hrow : B ≤ da ∧ ∃ cur, w.heap[da]? = some (.cells cur 3 (0, 0)) := by
    rcases hD.2 with ⟨e, _⟩ | ⟨g', cap', cur, e, hb, hg, _⟩
    · cases e
    · cases e; exact ⟨hb, cur, hg⟩
  obtain ⟨hBd, cur, hcur⟩ := hrow
  have hne1 : hp ≠ da := fun e => by
    have := hh.1
    rw [e, hcur] at this; cases this
  have hne2 : hw ≠ da := fun e => by
    rw [e, hcur] at hW; cases hW
  refine ⟨da, dc, (cell_block hW).trans rfl, hBd, fun i v hv => row_cell hD hv, fun i => by unfold World.frozen?; rw [hcur]; simp, fun i v => ⟨da, dc, ao, cap, L, ?_, own_setD hD i v, (Below.heap_setCell _ _ _ _ hne1).trans hh.1, own_not91 hh.2.1 hcur (by decide) _ _, hh.2.2.setCell (x := ⟨da, i, none⟩) (map_ne hh.2.2 hcur) _⟩⟩
  rw [List.length_set]
  exact (Below.heap_setCell _ _ _ _ hne2).trans hW
theorem look_at {w wN : World} {ca : Option Addr} {cc n da hp H B : Nat} (hn : n ≤ 10000) (h1 : wN.heap[da]? = some (.cells (madeCells #[.int .i64 0] n) 3 (0, 0))) (h2 : HpO wN B hp none 0 H [] 0 []) (hd : w.heap.size ≤ da) (hH : w.heap.size ≤ H) (hp_ : w.heap.size ≤ hp) (hb : Below w.heap.size w wN) :
    LookAt w ca cc n (.pointer (some ⟨wN.heap.size, 0, none⟩)) (wN.alloc (.cells #[.slice ca n cc, .slice (some ⟨da, 0, none⟩) n n, .pointer (some ⟨hp, 0, none⟩)] 57)) := by
  refine ⟨wN.heap.size, hp, H, rfl, hH, hp_, ⟨da, n, none, 0, [], ?_, ?_, ?_⟩, hb.alloc hb.size _⟩
  · rw [List.length_replicate]; exact (MapKept.heap_alloc wN _).1
  · exact (row_new h1 hd hn _ rfl).alloc _
  · exact ⟨((Below.refl _ wN).alloc (Nat.le_refl _) _).block _ (Array.getElem?_eq_some_iff.1 h2.1).1 |>.trans h2.1, World.ownsRow_nil _ _ _ _, h2.2.2.alloc _⟩
def LookPost (w : World) (ca : Option Addr) (cc n : Nat) (Dp : Nat → Int) (e : Ending) (w' : World) : Prop :=
  ∃ hw hp H D X next, e = .returned (.tuple #[.pointer (some ⟨hw, 0, none⟩), .int .i64 0, .int .i64 0]) ∧ WkAt w' w.heap.size hw hp ca cc n H D X next ∧ Inv n Dp D X next ∧ Below w.heap.size w w'
set_option maxRecDepth 100000 in
set_option maxHeartbeats 2000000 in
theorem look_any (w : World) (ca : Option Addr) (cc n : Nat) (C : List Ins) (hCn : C.length = n) (hC0 : 0 < n) (hC9 : n ≤ 8192) (hC : CodeAt w ca C) (hg : ∀ g, ca = some ⟨g, 0, none⟩ → g < w.heap.size) (p : Int) (hp0 : 0 ≤ p) (hp1 : p ≤ 100)
    (hr : ∀ (k : Nat) (x : Ins), C[k]? = some x → RightI n x) (Dp : Nat → Int) (hdp : Depths C Dp) (hch : ∀ k, k < n → ∃ m, m ≤ n ∧ Chain C k m) :
    Calls Try.prog 14 #[.slice ca n cc, .int .i64 p] w (LookPost w ca cc n Dp) := by
  have HC := Lib.hid hC; have HG := Lib.hid hg; have HCN := Lib.hid hCn; have HR := Lib.hid hr; have HDP := Lib.hid hdp; have HCH := Lib.hid hch
  have hmk := make_ints n (by omega)
  have hp2 : ¬ p < 0 := by omega
  have hp3 : ¬ 100 < p := by omega
  have hl1 : ¬ (8192 : Int) < n := by omega
  have hl2 : ((n : Int) == 0) = false := by simp; omega
  have HN := Lib.hid hC0; have HN9 := Lib.hid hC9
  clear hC hg hC0 hC9 hCn hr hdp hch
  go_enter Try.func14, Try.ntmps14
  go_upto_region 7 with fail
  have HMK := Lib.hid hmk
  go_cut [7] from 26 to 32 (fun s7 wx => LookAt w ca cc n s7 wx)
  case first =>
    go_region_with (go_at_call 25; refine (new_any _).mono ?_; rintro e wN ⟨rfl, hO, hbN⟩; have HO := Lib.hid hO; have HBN := Lib.hid hbN; clear hO hbN)
    · go_wp2_with fail
      go_meet
      have hs : w.heap.size ≤ (w.alloc (.cells (madeCells #[.int .i64 0] n) 3)).drew.heap.size := by simp
      have e : (w.alloc (.cells (madeCells #[.int .i64 0] n) 3)).drew.heap.size = w.heap.size + 1 := by simp
      have ho := HO.out
      rw [e] at ho
      refine look_at (wN := wN) (by have := HN9.out; omega) ?_ ho (Nat.le_refl _) (by omega) (by omega) ?_
      · exact (HBN.out.block _ (by simp)).trans (MapKept.heap_alloc w _).1
      · exact ((Below.refl _ w).alloc (Nat.le_refl _) (.cells (madeCells #[.int .i64 0] n) 3)).drew.trans (HBN.out.mono hs)
    · go_wp2_with fail
      go_meet
      have hl : w.heap.size ≤ wN.heap.size := HBN.out.size
      have h1 : (wN.alloc (.cells (madeCells #[.int .i64 0] n) 3)).heap[wN.heap.size]? = some (.cells (madeCells #[.int .i64 0] n) 3 (0, 0)) := (MapKept.heap_alloc wN _).1
      have h2 := ((Below.refl wN.heap.size wN).alloc (Nat.le_refl _) (.cells (madeCells #[.int .i64 0] n) 3)).block _ (Array.getElem?_eq_some_iff.1 HO.out.1).1 |>.trans HO.out.1
      have hA := look_at (wN := wN.alloc (.cells (madeCells #[.int .i64 0] n) 3)) (ca := ca) (cc := cc) (B := w.heap.size) (w := w) (by have := HN9.out; omega) h1 ⟨h2, World.ownsRow_nil _ _ _ _, HO.out.2.2.alloc _⟩ hl (Nat.le_refl _) (Nat.le_succ _) (((Below.refl _ w).drew.trans HBN.out).alloc hl _)
      rw [World.size_alloc] at hA
      exact hA
  case rest =>
    obtain ⟨hw, hp, H, rfl, hH, hhp, hk, hb⟩ := hcut
    have HK := Lib.hid hk; have HB := Lib.hid hb
    clear hk hb hmk HMK
    have hn5 : n ≤ 8500 := by have := HN9.out; omega
    go_wp2_with fail
    go_loopg [35] n (fun gk s35 wr => ∃ (k : Nat) (D : List Int), k ≤ n ∧ gk = n - k ∧ s35 = .int .i64 k ∧ D.length = n ∧ (∀ i, i < k → D[i]? = some (-1)) ∧ WkAt wr w.heap.size hw hp ca cc n H D [] 0 ∧ Below w.heap.size w wr)
    case atStart => exact ⟨0, List.replicate n 0, Nat.zero_le _, rfl, rfl, by simp, fun i h => absurd h (Nat.not_lt_zero _), HK.out, HB.out⟩
    case round =>
      obtain ⟨k, D, hkn, hgk, rfl, hD, hneg, hk, hb⟩ := hrel
      have HK2 := Lib.hid hk; have HB2 := Lib.hid hb; have HD := Lib.hid hD; have HNEG := Lib.hid hneg
      subst hgk
      clear hk hb hD hneg
      by_cases hlt : k < n
      · have hlt' : (k : Int) < n := by omega
        have hk5 : k ≤ 8500 := by omega
        obtain ⟨x, hx⟩ : ∃ x, C[k]? = some x := ⟨_, List.getElem?_eq_some_iff.2 ⟨by rw [HCN.out]; exact hlt, rfl⟩⟩
        obtain ⟨g, rfl, c0, c1, c2, c3⟩ := (HC.out.upB HG.out HB2.out) k x hx
        have RX := Lib.hid (HR.out k x hx)
        obtain ⟨op, A, num, text⟩ := x
        dsimp only at c0 c1 c2 c3
        clear hx
        go_wp2_with fail
        refine (right_any _ n (op, A, num, text) RX.out).mono ?_
        rintro e w5 ⟨rfl, hb5⟩
        have hb6 : Below wr.heap.size wr w5 := ((Below.refl _ wr).alloc (Nat.le_refl _) _).trans (hb5.mono (by simp))
        obtain ⟨da, dc, q1, hBd, hcell, hfz, hset⟩ := (HK2.out.below hb6).rowAt
        have SET := Lib.hid (hset k (-1))
        have HB6 := Lib.hid (((HB2.out.trans (hb6.mono HB2.out.size))).setCell (p := ⟨da, k, none⟩) hBd (.int .i64 (-1)))
        obtain ⟨v0, hv0⟩ : ∃ v0, D[k]? = some v0 := ⟨_, List.getElem?_eq_some_iff.2 ⟨by rw [HD.out]; exact hlt, rfl⟩⟩
        have q2 := hcell k v0 hv0
        have q3 := hfz k
        rw [HD.out] at q1
        clear hb5 hb6 hcell hfz hset hv0 c0 c1 c2 c3
        go_wp2_with fail
        go_roundg (n - (k + 1))
        case measure => omega
        case rel =>
          refine ⟨k + 1, _, by omega, rfl, by go_num, by rw [List.length_set]; exact HD.out, ?_, SET.out, HB6.out⟩
          intro i hi
          by_cases hik : k = i
          · subst hik
            rw [List.getElem?_set_self (by rw [HD.out]; exact hlt)]
          · rw [List.getElem?_set_ne hik]
            exact HNEG.out i (by omega)
      · have hlt' : ¬ (k : Int) < n := by omega
        have hI : Hid (Inv n Dp D [] 0) := Lib.hid (by
          have hkk : k = n := by omega
          subst hkk
          refine ⟨HD.out, fun i v hv => .inl ?_, by simp, ?_, by simp⟩
          · have hi : i < k := by have := (List.getElem?_eq_some_iff.1 hv).1; have := HD.out; omega
            have := HNEG.out i hi
            rw [hv] at this
            cases this
            decide
          · have hu : unmet D = D.length := by
              unfold unmet
              rw [List.countP_eq_length]
              intro v hv
              obtain ⟨i, hi, rfl⟩ := List.getElem_of_mem hv
              have := HNEG.out i (by have := HD.out; omega)
              rw [List.getElem?_eq_getElem hi, Option.some.injEq] at this
              rw [this]
              decide
            rw [hu, HD.out]; omega)
        go_wp2_with fail
        refine (through_all wr w.heap.size hw hp ca cc n H Dp D [] 0 HK2.out hH hhp hI.out hn5 HN.out C HCN.out (HC.out.upB HG.out HB2.out) HG.out HDP.out).mono ?_
        rintro e w5 hp5
        obtain ⟨rfl, hf, D5, X5, nx5, hk5, hi5⟩ := hp5
        have K5 := Lib.hid hk5; have I5 := Lib.hid hi5
        have B5 := Lib.hid (HB2.out.trans hf.1)
        clear hf hk5 hi5
        go_wp2_with fail
        refine (circle_any w5 w.heap.size hw hp ca cc n H D5 X5 nx5 K5.out I5.out.1 hn5 C HCN.out (HC.out.upB HG.out B5.out) HCH.out).mono ?_
        rintro e w6 ⟨rfl, rfl⟩
        go_wp2_with fail
        go_ret3
        exact ⟨hw, hp, H, D5, X5, nx5, rfl, K5.out, I5.out, B5.out⟩
end Go.Proofs.Ytkpgnopimnamfaa
namespace Go.Proofs.Ytkpgnopimnamfaa
open Go.ChangeShapes Go.WideShapes Go.ChangeAt Go.RowKit
theorem field_kind (word : ByteArray) (a t tk lv : Int) (nm mn en : Bool) (W : World) : (Instr.field 53 (.agg #[.string word, .int .u8 a, .bool nm, .int .u8 t, .int .i64 tk, .int .i64 lv, .bool mn, .bool en]) 1).run Try.prog W = .ok (.int .u8 a) W := by kernel_rfl
def IChkPost (w : World) (e : Ending) (w' : World) : Prop :=
  (∃ a b : Int, e = .returned (.tuple #[.int .i64 a, .int .i64 b, .int .i64 0, .int .i64 0])) ∧ Below w.heap.size w w'
set_option maxRecDepth 100000 in
set_option maxHeartbeats 2000000 in
theorem instrs_check (w : World) (ca : Option Addr) (cc n : Nat) (C : List Ins) (hCn : C.length = n) (hC0 : 0 < n) (hC9 : n ≤ 8192) (hC : CodeAt w ca C) (hg : ∀ g, ca = some ⟨g, 0, none⟩ → g < w.heap.size) (p : Int) (hp0 : 0 ≤ p) (hp1 : p ≤ 100)
    (hr : ∀ (k : Nat) (x : Ins), C[k]? = some x → RightI n x) (Dp : Nat → Int) (hdp : Depths C Dp) (hch : ∀ k, k < n → ∃ m, m ≤ n ∧ Chain C k m) :
    Calls Try.prog 9 #[.slice ca n cc, .int .i64 p] w (IChkPost w) := by
  have HL := Lib.hid (look_any w ca cc n C hCn hC0 hC9 hC hg p hp0 hp1 hr Dp hdp hch)
  have HC := Lib.hid hC; have HG := Lib.hid hg; have HCN := Lib.hid hCn; have HR := Lib.hid hr
  clear hC hg hCn hr hdp hch
  go_enter Try.func9, Try.ntmps9
  go_wp2_with fail
  refine HL.out.mono ?_
  rintro e w1 hp5
  obtain ⟨hw, hp, H, D, X, next, rfl, hk, hi, hb⟩ := hp5
  have HK := Lib.hid hk; have HD := Lib.hid hi.1; have HB := Lib.hid hb
  clear hk hi hb
  go_wp2_with fail
  go_loopg [4, 5, 25] n (fun gk s4 s5 s25 wr => ∃ (k : Nat) (a b : Int), k ≤ n ∧ gk = n - k ∧ s25 = .int .i64 k ∧ s4 = .int .i64 a ∧ s5 = .int .i64 b ∧ Below w1.heap.size w1 wr)
  case atStart => exact ⟨0, p, 0, Nat.zero_le _, rfl, rfl, rfl, rfl, Below.refl _ _⟩
  case round =>
    obtain ⟨k, a, b, hkn, hgk, rfl, rfl, rfl, hb⟩ := hrel
    have HB2 := Lib.hid hb
    subst hgk
    clear hb
    by_cases hlt : k < n
    · have hlt' : (k : Int) < n := by omega
      have hk5 : k ≤ 8500 := by omega
      obtain ⟨x, hx⟩ : ∃ x, C[k]? = some x := ⟨_, List.getElem?_eq_some_iff.2 ⟨by rw [HCN.out]; exact hlt, rfl⟩⟩
      obtain ⟨g, rfl, c0, c1, c2, c3⟩ := ((HC.out.upB HG.out HB.out).up HB2.out (Nat.le_refl _)) k x hx
      have RX := Lib.hid (HR.out k x hx)
      obtain ⟨op, A, num, text⟩ := x
      dsimp only at c0 c1 c2 c3
      obtain ⟨word, hword, hkind⟩ := kind_any op RX.out.1
      unfold kindV at hkind
      have HKIND := Lib.hid hkind; clear hkind hword hx
      go_wp2_with fail
      refine (HKIND.out _).mono ?_
      rintro e w5 ⟨rfl, hb5⟩
      have XB := (hb5.block wr.heap.size (by simp)).trans (MapKept.heap_alloc wr _).1
      have x1 : w5.cell? ⟨wr.heap.size, 1, none⟩ = some (.int .i64 A) := (cell_block XB).trans rfl
      have hb6 : Below wr.heap.size wr w5 := ((Below.refl _ wr).alloc (Nat.le_refl _) _).trans (hb5.mono (by simp))
      have hb7 : Below w1.heap.size w1 w5 := HB2.out.trans (hb6.mono HB2.out.size)
      obtain ⟨da, dc, q1, hBd, hcell, hfz, hset⟩ := (HK.out.below hb7).rowAt
      have HB7 := Lib.hid hb7
      obtain ⟨v0, hv0⟩ : ∃ v0, D[k]? = some v0 := ⟨_, List.getElem?_eq_some_iff.2 ⟨by rw [HD.out]; exact hlt, rfl⟩⟩
      have q2 := hcell k v0 hv0
      rw [HD.out] at q1
      clear hb5 hb6 hb7 hcell hfz hset hv0 c0 c1 c2 c3 XB
      by_cases ho : aOf op = 115
      · have ho2 : (aOf op == 115) = true := by simp [ho]
        have hfld := field_kind word 115 (textOf op) (takesOf op) (leaveOf op) (numOf op) (manyOf op) (endsOf op)
        have hA : 0 ≤ A ∧ A < 100 := by
          have h := RX.out.2.2
          unfold topOf at h
          dsimp only at h
          rw [ho] at h
          exact ⟨h.1, h.2.1⟩
        obtain ⟨hA0, hA1⟩ := hA
        go_wp2_with fail
        all_goals
          go_roundg (n - (k + 1))
          case measure => omega
          case rel => exact ⟨k + 1, _, _, by omega, rfl, by go_num, rfl, rfl, HB7.out⟩
      · have ho2 : (aOf op == 115) = false := by simp [ho]
        have hfld := field_kind word (aOf op) (textOf op) (takesOf op) (leaveOf op) (numOf op) (manyOf op) (endsOf op)
        go_wp2_with fail
        all_goals
          go_roundg (n - (k + 1))
          case measure => omega
          case rel => exact ⟨k + 1, _, _, by omega, rfl, by go_num, rfl, rfl, HB7.out⟩
    · have hlt' : ¬ (k : Int) < n := by omega
      go_wp2_with fail
      refine bodyPost_ret (results_four rfl _ _ _) rfl ?_
      exact ⟨⟨a, b, rfl⟩, HB.out.trans (HB2.out.mono HB.out.size)⟩
end Go.Proofs.Ytkpgnopimnamfaa
