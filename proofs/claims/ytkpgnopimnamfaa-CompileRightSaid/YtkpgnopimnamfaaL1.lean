/- CompileSteps: its walk. -/
import Derived.Test.YtkpgnopimnamfaaL0
import Derived.Test.YtkpgnopimnamfaaP4
namespace Go.Proofs.Ytkpgnopimnamfaa
open Go.ChangeShapes Go.WideShapes Go.ChangeAt Go.RowKit
def countsB (op : Int) : Bool := !(op == 1) && !(op == 2) && !(op == 3)
theorem counted_any (op : Int) (w : World) : Calls Try.prog 7 #[.int .u8 op] w fun e w' => e = .returned (.bool (countsB op)) ∧ w = w' := by
  by_cases h1 : op = 1
  · subst h1
    go_enter Try.func7, Try.ntmps7
    go_wp2
    go_ret
    exact ⟨rfl, rfl⟩
  by_cases h2 : op = 2
  · subst h2
    go_enter Try.func7, Try.ntmps7
    go_wp2
    go_ret
    exact ⟨rfl, rfl⟩
  by_cases h3 : op = 3
  · subst h3
    go_enter Try.func7, Try.ntmps7
    go_wp2
    go_ret
    exact ⟨rfl, rfl⟩
  have e : countsB op = true := by simp [countsB, h1, h2, h3]
  have E := Lib.hid e; clear e
  have h3b : (op != 3) = true := by simp [h3]
  go_enter Try.func7, Try.ntmps7
  go_wp2
  go_ret
  exact ⟨by rw [E.out]; rfl, rfl⟩
theorem count_take {α : Type} (p : α → Bool) {l : List α} {k : Nat} {x : α} (h : l[k]? = some x) : (l.take (k + 1)).countP p = (l.take k).countP p + if p x = true then 1 else 0 := by
  obtain ⟨hlt, rfl⟩ := List.getElem?_eq_some_iff.1 h
  rw [List.take_succ_eq_append_getElem hlt, List.countP_append, List.countP_singleton]
theorem count_le {α : Type} (p : α → Bool) (l : List α) (k : Nat) : (l.take k).countP p ≤ k := Nat.le_trans List.countP_le_length (by rw [List.length_take]; omega)
/-- Slots' three ends, for a caller. -/
theorem slots_ends {T : List Tw} {l : Option (List Int)} {at_ e : Int} (h : SlotsIs T l at_ e) :
    (¬ e = 0 ∧ l = none) ∨ (e = 0 ∧ at_ = 0 ∧ ∃ kids num text ks outs, (Ro.node (1, kids, num, text) ks).flat = T ∧ okR (fun _ => true) (.node (1, kids, num, text) ks) ∧ T.length ≤ 2048 ∧ l = some outs ∧ outs.length = T.length) := by
  rcases h with ⟨h, rfl, rfl, rfl⟩ | ⟨h, x, ks, hfl, hok, hT', hc⟩
  · exact .inl ⟨h, rfl⟩
  · obtain ⟨op, kids, num, text⟩ := x
    dsimp only [Tw.op] at hc
    rcases hc with ⟨hop, rfl, rfl, rfl⟩ | ⟨rfl, hf, rfl, rfl, rfl⟩ | ⟨rfl, hf, rfl, rfl, rfl⟩
    · exact .inl ⟨by decide, rfl⟩
    · exact .inl ⟨hf, rfl⟩
    · refine .inr ⟨rfl, rfl, kids, num, text, ks, _, hfl, hok, hT', rfl, ?_⟩
      rw [← hfl]
      exact ((sl_facts [] 0 _).2.2.2 hf).1
set_option maxRecDepth 100000 in
set_option maxHeartbeats 1000000 in
theorem steps_long (w : World) (pa : Option Addr) (cap n : Nat) (hn : 5000 < n) :
    Calls Try.prog 3 #[.slice pa n cap] w fun e w' => e = .returned (.bool true) ∧ Below w.heap.size w w' := by
  have h2 : decide ((5000 : Int) < n) = true := by simp; omega
  go_enter Try.func3, Try.ntmps3
  go_wp2_with fail
  refine (wakes_any w).mono ?_
  rintro e w1 ⟨rfl, hB⟩
  have HB := Lib.hid hB; clear hB
  go_wp2_with fail
  go_ret
  exact ⟨rfl, HB.out⟩
set_option maxRecDepth 100000 in
set_option maxHeartbeats 1000000 in
theorem steps_err (w : World) (pa : Option Addr) (cap : Nat) (T : List Tw) (hT : T.length ≤ 5000) (hA : TreeAt w pa w.heap.size T) (at_ e : Int) (hs : SlotsIs T none at_ e) (he : ¬ e = 0) :
    Calls Try.prog 3 #[.slice pa T.length cap] w fun e w' => e = .returned (.bool true) ∧ Below w.heap.size w w' := by
  have h2 : decide ((5000 : Int) < T.length) = false := by simp; omega
  have HA := Lib.hid hA; have HS := Lib.hid hs; have HT := Lib.hid hT; clear hA hs hT
  go_enter Try.func3, Try.ntmps3
  go_wp2_with fail
  refine (compile_err w pa cap T HT.out HA.out at_ e HS.out he).mono ?_
  rintro en w1 ⟨rfl, hB⟩
  have HB := Lib.hid hB; clear hB
  go_wp2_with fail
  refine (wakes_any w1).mono ?_
  rintro en w2 ⟨rfl, hB2⟩
  have HB2 := Lib.hid (HB.out.trans (hB2.mono HB.out.size)); clear hB2
  go_wp2_with fail
  go_ret
  exact ⟨rfl, HB2.out⟩
set_option maxRecDepth 100000 in
set_option maxHeartbeats 2000000 in
theorem steps_ok (w : World) (pa : Option Addr) (cap : Nat) (kids num : Int) (text : ByteArray) (ks : List Ro) (T : List Tw) (hfl : (Ro.node (1, kids, num, text) ks).flat = T) (hok : okR (fun _ => true) (.node (1, kids, num, text) ks)) (hT : T.length ≤ 2048) (hA : TreeAt w pa w.heap.size T)
    (outs : List Int) (hs : SlotsIs T (some outs) 0 0) (ho : outs.length = T.length) :
    Calls Try.prog 3 #[.slice pa T.length cap] w fun e w' => e = .returned (.bool true) ∧ Below w.heap.size w w' := by
  have h2 : decide ((5000 : Int) < T.length) = false := by simp; omega
  obtain ⟨C, hC⟩ : ∃ C, gen (fun k => outs.getD k 0) (.node (1, kids, num, text) ks) 0 0 = C := ⟨_, rfl⟩
  have HCT : Hid (C.countP costly = T.countP counts) := Lib.hid (by
    rw [← hC, ← hfl]
    exact gen_count _ _ _ (Nat.le_refl _) _ hok (show ¬ (1 : Int) = 2 by decide) 0 0)
  have HCL : Hid (C.length ≤ 10000) := Lib.hid (by
    have := gen_len (fun k => outs.getD k 0) (.node (1, kids, num, text) ks) 0 0
    rw [hC, hfl] at this; omega)
  have hc := compile_ok w pa cap kids num text ks T hfl hok hT hA outs hs ho C hC
  have HCC := Lib.hid hc; have HA := Lib.hid hA; have HT := Lib.hid hT
  clear hfl hok hT hA hs ho hC hc
  go_enter Try.func3, Try.ntmps3
  go_wp2_with fail
  refine HCC.out.mono ?_
  rintro en w1 hp
  obtain ⟨ao, cp, rfl, hown, hB⟩ := hp
  have HO := Lib.hid (code_own hown); have HB := Lib.hid hB; have HA1 := Lib.hid (HA.out.below hB)
  clear hown hB
  go_wp2_with fail
  go_loop [6, 7] (fun s6 s7 => ∃ k : Nat, k ≤ T.length ∧ s7 = .int .i64 k ∧ s6 = .int .i64 ((T.take k).countP counts : Nat)) (fun _ s7 => T.length - (intOf s7).toNat)
  case atStart => exact ⟨0, Nat.zero_le _, rfl, rfl⟩
  case round =>
    obtain ⟨k, hk, rfl, rfl⟩ := hrel
    have hT1 := HT.out
    have hcl := count_le counts T k
    by_cases hlt : k < T.length
    · obtain ⟨x, hx⟩ : ∃ x, T[k]? = some x := ⟨_, List.getElem?_eq_some_iff.2 ⟨hlt, rfl⟩⟩
      have HCN := Lib.hid (count_take counts hx)
      obtain ⟨A, rfl, hAB, x0, _, _, _⟩ := HA1.out k x hx
      obtain ⟨op, x1, x2, x3⟩ := x
      dsimp only [Tw.op] at x0
      have hlt' : (k : Int) < T.length := by omega
      have hcb : countsB op = counts (op, x1, x2, x3) := rfl
      clear hx
      cases hcc : counts (op, x1, x2, x3)
      all_goals
        rw [hcc] at hcb
        have HCC2 := Lib.hid hcc; clear hcc
        have HCB := Lib.hid hcb; clear hcb
        go_wp2_with fail
        refine (counted_any op w1).mono ?_
        rw [HCB.out]
        rintro e w' ⟨rfl, rfl⟩
        go_wp2_with fail
        go_round
        case rel => exact ⟨k + 1, by omega, by go_num, by rw [HCN.out, HCC2.out]; rfl⟩
        case measure => simp [intOf]; omega
    · have hlt' : ¬ (k : Int) < T.length := by omega
      obtain rfl : k = T.length := by omega
      clear hlt hk hcl
      rw [List.take_length]
      go_wp2_with fail
      go_loop [8, 9] (fun s8 s9 => ∃ k : Nat, k ≤ C.length ∧ s9 = .int .i64 k ∧ s8 = .int .i64 ((C.take k).countP costly : Nat)) (fun _ s9 => C.length - (intOf s9).toNat)
      case atStart => exact ⟨0, Nat.zero_le _, rfl, rfl⟩
      case round =>
        obtain ⟨k, hk, rfl, rfl⟩ := hrel
        have hC1 := HCL.out
        have hcl := count_le costly C k
        by_cases hlt : k < C.length
        · obtain ⟨x, hx⟩ : ∃ x, C[k]? = some x := ⟨_, List.getElem?_eq_some_iff.2 ⟨hlt, rfl⟩⟩
          have HCN := Lib.hid (count_take costly hx)
          obtain ⟨g, rfl, x0, _, _, _⟩ := HO.out k x hx
          obtain ⟨op, x1, x2, x3⟩ := x
          dsimp only at x0
          have hlt' : (k : Int) < C.length := by omega
          clear hx
          by_cases h1 : op = 1
          · subst h1
            go_wp2_with fail
            go_round
            case rel => exact ⟨k + 1, by omega, by go_num, by rw [HCN.out]; rfl⟩
            case measure => simp [intOf]; omega
          by_cases h5 : op = 5
          · subst h5
            go_wp2_with fail
            go_round
            case rel => exact ⟨k + 1, by omega, by go_num, by rw [HCN.out]; rfl⟩
            case measure => simp [intOf]; omega
          by_cases h28 : op = 28
          · subst h28
            go_wp2_with fail
            go_round
            case rel => exact ⟨k + 1, by omega, by go_num, by rw [HCN.out]; rfl⟩
            case measure => simp [intOf]; omega
          have hco : costly (op, x1, x2, x3) = true := by simp [costly, h1, h5, h28]
          have HCO := Lib.hid hco; clear hco
          have b28 : (op != 28) = true := by simp [h28]
          go_wp2_with fail
          go_round
          case rel => exact ⟨k + 1, by omega, by go_num, by rw [HCN.out, HCO.out]; rfl⟩
          case measure => simp [intOf]; omega
        · have hlt' : ¬ (k : Int) < C.length := by omega
          obtain rfl : k = C.length := by omega
          clear hlt hk hcl
          rw [List.take_length, HCT.out]
          go_wp2_with fail
          refine (wakes_any w1).mono ?_
          rintro en w2 ⟨rfl, hB2⟩
          have HB2 := Lib.hid (HB.out.trans (hB2.mono HB.out.size)); clear hB2
          go_wp2_with fail
          go_ret
          exact ⟨rfl, HB2.out⟩
/-- CompileSteps returns true. -/
theorem steps_any (w : World) (pa : Option Addr) (cap : Nat) (T : List Tw) (hA : TreeAt w pa w.heap.size T) :
    Calls Try.prog 3 #[.slice pa T.length cap] w fun e w' => e = .returned (.bool true) ∧ Below w.heap.size w w' := by
  by_cases hT : T.length ≤ 5000
  · obtain ⟨l, at_, e, hs⟩ := slotsIs T
    rcases slots_ends hs with ⟨he, rfl⟩ | ⟨rfl, rfl, kids, num, text, ks, outs, hfl, hok, hT', rfl, ho⟩
    · exact steps_err w pa cap T hT hA at_ e hs he
    · exact steps_ok w pa cap kids num text ks T hfl hok hT' hA outs hs ho
  · exact steps_long w pa cap T.length (by omega)
end Go.Proofs.Ytkpgnopimnamfaa
