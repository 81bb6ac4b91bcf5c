/- CompileRight: its walk. -/
import Derived.Test.YtkpgnopimnamfaaWD
import Derived.Test.YtkpgnopimnamfaaL1
namespace Go.Proofs.Ytkpgnopimnamfaa
open Go.ChangeShapes Go.WideShapes Go.ChangeAt Go.RowKit
theorem names_any (w : World) (pa : Option Addr) (cap : Nat) (T : List Tw) (hT : T.length ≤ 5000) (hA : TreeAt w pa w.heap.size T) (l : Option (List Int)) (at_ e : Int) (h : SlotsIs T l at_ e) :
    Calls Try.prog 8 #[.slice pa T.length cap] w fun en w' => en = .returned (.tuple #[.int .i64 at_, .int .i64 e]) ∧ Below w.heap.size w w' := by
  have HS := Lib.hid (slots_is w pa cap T hT hA l at_ e h)
  clear hT hA h
  go_enter Try.func8, Try.ntmps8
  go_wp2_with fail
  refine HS.out.mono ?_
  rintro en w1 hp
  obtain ⟨v, rfl, hv, hB⟩ := hp
  have HB := Lib.hid hB; clear hB hv
  go_wp2_with fail
  go_ret2
  exact ⟨rfl, HB.out⟩
set_option maxRecDepth 100000 in
set_option maxHeartbeats 1000000 in
theorem rights_long (w : World) (pa : Option Addr) (cap n : Nat) (hn : 5000 < n) :
    Calls Try.prog 4 #[.slice pa n cap] w fun e w' => e = .returned (.bool true) ∧ Below w.heap.size w w' := by
  have h2 : decide ((5000 : Int) < n) = true := by simp; omega
  go_enter Try.func4, Try.ntmps4
  go_wp2_with fail
  refine (wakes_any w).mono ?_
  rintro e w1 ⟨rfl, hB⟩
  have HB := Lib.hid hB; clear hB
  go_wp2_with fail
  go_ret
  exact ⟨rfl, HB.out⟩
set_option maxRecDepth 100000 in
set_option maxHeartbeats 1000000 in
theorem rights_err (w : World) (pa : Option Addr) (cap : Nat) (T : List Tw) (hT : T.length ≤ 5000) (hA : TreeAt w pa w.heap.size T) (at_ e : Int) (hs : SlotsIs T none at_ e) (he : ¬ e = 0) :
    Calls Try.prog 4 #[.slice pa T.length cap] w fun e w' => e = .returned (.bool true) ∧ Below w.heap.size w w' := by
  have h2 : decide ((5000 : Int) < T.length) = false := by simp; omega
  have HA := Lib.hid hA; have HS := Lib.hid hs; have HT := Lib.hid hT; clear hA hs hT
  go_enter Try.func4, Try.ntmps4
  go_wp2_with fail
  refine (compile_err w pa cap T HT.out HA.out at_ e HS.out he).mono ?_
  rintro en w1 ⟨rfl, hB⟩
  have HB := Lib.hid hB
  have HA1 := Lib.hid ((HA.out.below hB).mono hB.size); clear hB
  go_wp2_with fail
  refine (names_any w1 pa cap T HT.out HA1.out none at_ e HS.out).mono ?_
  rintro en w2 ⟨rfl, hB⟩
  have HB2 := Lib.hid (HB.out.trans (hB.mono HB.out.size)); clear hB
  go_wp2_with fail
  refine (wakes_any w2).mono ?_
  rintro en w3 ⟨rfl, hB⟩
  have HB3 := Lib.hid (HB2.out.trans (hB.mono HB2.out.size)); clear hB
  go_wp2_with fail
  go_ret
  exact ⟨rfl, HB3.out⟩
def isFork (x : Tw) : Bool := x.op == 53
def begs (x : Ins) : Bool := x.1 == 53
def ends28 (x : Ins) : Bool := x.1 == 28
set_option maxRecDepth 100000 in
set_option maxHeartbeats 2000000 in
theorem rights_ok (w : World) (pa : Option Addr) (cap : Nat) (kids num : Int) (text : ByteArray) (ks : List Ro) (T : List Tw) (hfl : (Ro.node (1, kids, num, text) ks).flat = T) (hok : okR (fun _ => true) (.node (1, kids, num, text) ks)) (hT : T.length ≤ 2048) (hA : TreeAt w pa w.heap.size T)
    (outs : List Int) (hs : SlotsIs T (some outs) 0 0) (ho : outs.length = T.length) (C : List Ins) (hC : gen (fun k => outs.getD k 0) (.node (1, kids, num, text) ks) 0 0 = C)
    (C' : List Ins) (A9 n9 : Int) (t9 : ByteArray) (hlast : C = C' ++ [(28, A9, n9, t9)]) (hk0 : 1 ≤ kids) (hk1 : kids ≤ 101) (hr : ∀ (k : Nat) (x : Ins), C[k]? = some x → RightI C.length x) (Dp : Nat → Int) (hdp : Depths C Dp) (hch : ∀ k, k < C.length → ∃ m, m ≤ C.length ∧ Chain C k m)
    (hb : C.countP begs = T.countP isFork) (he : C.countP ends28 = T.countP isFork + 1) :
    Calls Try.prog 4 #[.slice pa T.length cap] w fun e w' => e = .returned (.bool true) ∧ Below w.heap.size w w' := by
  have h2 : decide ((5000 : Int) < T.length) = false := by simp; omega
  have hCl : C.length ≤ 6144 := by
    have := gen_len (fun k => outs.getD k 0) (.node (1, kids, num, text) ks) 0 0
    rw [hC, hfl] at this; omega
  have hCl0 : 0 < C.length := by rw [hlast]; simp
  have hT0 : T[0]? = some (1, kids, num, text) := by rw [← hfl, Ro.flat]; rfl
  have hc := compile_ok w pa cap kids num text ks T hfl hok hT hA outs hs ho C hC
  have HCL := Lib.hid hCl; have HCL0 := Lib.hid hCl0; have HT0 := Lib.hid hT0
  have HCC := Lib.hid hc; have HA := Lib.hid hA; have HT := Lib.hid hT; have HS := Lib.hid hs
  have HR := Lib.hid hr; have HDP := Lib.hid hdp; have HCH := Lib.hid hch; have HBG := Lib.hid hb; have HEN := Lib.hid he; have HLAST := Lib.hid hlast
  clear hfl hok hT hA hs ho hC hc hCl hCl0 hT0 hr hdp hch hb he hlast
  go_enter Try.func4, Try.ntmps4
  go_wp2_with fail
  refine HCC.out.mono ?_
  rintro en w1 hp
  obtain ⟨ao, cp, rfl, hown, hB⟩ := hp
  have HO := Lib.hid (code_own hown); have HB := Lib.hid hB; have HA1 := Lib.hid ((HA.out.below hB).mono hB.size)
  clear hown hB
  go_wp2_with fail
  refine (names_any w1 pa cap T (by have := HT.out; omega) HA1.out (some outs) 0 0 HS.out).mono ?_
  rintro en w2 ⟨rfl, hB⟩
  have HB2 := Lib.hid (HB.out.trans (hB.mono HB.out.size))
  have HO2 := Lib.hid (HO.out.up hB (Nat.le_refl _)); have HA2 := Lib.hid ((HA1.out.below hB).mono hB.size)
  clear hB
  go_wp2_with fail
  have HG : Hid (∀ g, ao = some ⟨g, 0, none⟩ → g < w2.heap.size) := Lib.hid (fun g hg => by
    obtain ⟨x, hx⟩ : ∃ x, C[0]? = some x := ⟨_, List.getElem?_eq_some_iff.2 ⟨HCL0.out, rfl⟩⟩
    obtain ⟨g', e', h1, _⟩ := HO2.out 0 x hx
    rw [e'] at hg
    cases hg
    exact cell_lt h1)
  refine (instrs_check w2 ao cp C.length C rfl HCL0.out (by have := HCL.out; omega) HO2.out HG.out (kids - 1) (by omega) (by omega) HR.out Dp HDP.out HCH.out).mono ?_
  rintro en w3 hp
  obtain ⟨⟨r1, r2, rfl⟩, hB⟩ := hp
  have HB3 := Lib.hid (HB2.out.trans (hB.mono HB2.out.size))
  have HO3 := Lib.hid (HO2.out.up hB (Nat.le_refl _)); have HA3 := Lib.hid ((HA2.out.below hB).mono hB.size)
  clear hB
  obtain ⟨A, rfl, hAB, _, a1, _⟩ := HA3.out 0 _ HT0.out
  have hcl8 : ¬ (8192 : Int) < C.length := by have := HCL.out; omega
  have htl : 0 < T.length := (List.getElem?_eq_some_iff.1 HT0.out).1
  dsimp only [Tw.kids] at a1
  rw [show A.add (0 * 4) = A from by unfold Addr.add; simp] at a1
  have hw1 : IntKind.i64.wrap (kids - 1) = kids - 1 := IntWalk.i64_in _ (by omega)
  have hd8 : decide ((8192 : Int) < C.length) = false := by simp; omega
  go_wp2_with fail
  clear hw1 hd8 a1
  go_loop [12, 13] (fun s12 s13 => ∃ k : Nat, k ≤ T.length ∧ s13 = .int .i64 k ∧ s12 = .int .i64 ((T.take k).countP isFork : Nat)) (fun _ s13 => T.length - (intOf s13).toNat)
  case atStart => exact ⟨0, Nat.zero_le _, rfl, rfl⟩
  case round =>
    obtain ⟨k, hk, rfl, rfl⟩ := hrel
    have hT1 := HT.out
    have hcl := count_le isFork T k
    by_cases hlt : k < T.length
    · obtain ⟨x, hx⟩ : ∃ x, T[k]? = some x := ⟨_, List.getElem?_eq_some_iff.2 ⟨hlt, rfl⟩⟩
      have HCN := Lib.hid (count_take isFork hx)
      obtain ⟨A', eA, hAB', x0, _, _, _⟩ := HA3.out k x hx
      cases eA
      obtain ⟨op, x1, x2, x3⟩ := x
      dsimp only [Tw.op] at x0
      have hlt' : (k : Int) < T.length := by omega
      clear hx
      by_cases h53 : op = 53
      · subst h53
        go_wp2_with fail
        go_round
        case rel => exact ⟨k + 1, by omega, by go_num, by rw [HCN.out]; rfl⟩
        case measure => simp [intOf]; omega
      · have hf : isFork (op, x1, x2, x3) = false := by simp [isFork, Tw.op, h53]
        have HF := Lib.hid hf; clear hf
        go_wp2_with fail
        go_round
        case rel => exact ⟨k + 1, by omega, by go_num, by rw [HCN.out, HF.out]; rfl⟩
        case measure => simp [intOf]; omega
    · have hlt' : ¬ (k : Int) < T.length := by omega
      obtain rfl : k = T.length := by omega
      clear hlt hk hcl
      rw [List.take_length]
      go_wp2_with fail
      go_loop [14, 15, 16] (fun s14 s15 s16 => ∃ k : Nat, k ≤ C.length ∧ s16 = .int .i64 k ∧ s14 = .int .i64 ((C.take k).countP begs : Nat) ∧ s15 = .int .i64 ((C.take k).countP ends28 : Nat)) (fun _ _ s16 => C.length - (intOf s16).toNat)
      case atStart => exact ⟨0, Nat.zero_le _, rfl, rfl, rfl⟩
      case round =>
        obtain ⟨k, hk, rfl, rfl, rfl⟩ := hrel
        have hC1 := HCL.out
        have hcl1 := count_le begs C k
        have hcl2 := count_le ends28 C k
        by_cases hlt : k < C.length
        · obtain ⟨x, hx⟩ : ∃ x, C[k]? = some x := ⟨_, List.getElem?_eq_some_iff.2 ⟨hlt, rfl⟩⟩
          have HCN1 := Lib.hid (count_take begs hx)
          have HCN2 := Lib.hid (count_take ends28 hx)
          obtain ⟨g, rfl, x0, _, _, _⟩ := HO3.out k x hx
          obtain ⟨op, x1, x2, x3⟩ := x
          dsimp only at x0
          have hlt' : (k : Int) < C.length := by omega
          clear hx
          by_cases h53 : op = 53
          · subst h53
            go_wp2_with fail
            go_round
            case rel => exact ⟨k + 1, by omega, by go_num, by rw [HCN1.out]; rfl, by rw [HCN2.out]; rfl⟩
            case measure => simp [intOf]; omega
          have hf1 : begs (op, x1, x2, x3) = false := by simp [begs, h53]
          have HF1 := Lib.hid hf1; clear hf1
          by_cases h28 : op = 28
          · subst h28
            go_wp2_with fail
            go_round
            case rel => exact ⟨k + 1, by omega, by go_num, by rw [HCN1.out]; rfl, by rw [HCN2.out]; rfl⟩
            case measure => simp [intOf]; omega
          have hf2 : ends28 (op, x1, x2, x3) = false := by simp [ends28, h28]
          have HF2 := Lib.hid hf2; clear hf2
          go_wp2_with fail
          go_round
          case rel => exact ⟨k + 1, by omega, by go_num, by rw [HCN1.out, HF1.out]; rfl, by rw [HCN2.out, HF2.out]; rfl⟩
          case measure => simp [intOf]; omega
        · have hlt' : ¬ (k : Int) < C.length := by omega
          obtain rfl : k = C.length := by omega
          clear hlt hk hcl1 hcl2
          rw [List.take_length, HBG.out, HEN.out]
          have hcT := List.countP_le_length (p := isFork) (l := T)
          obtain ⟨L, hL⟩ : ∃ L, C.length = L + 1 := ⟨C.length - 1, by have := HCL0.out; omega⟩
          have hlx : C[L]? = some (28, A9, n9, t9) := by
            have h3 := HLAST.out
            have h4 : C'.length = L := by
              have := congrArg List.length h3
              simp only [List.length_append, List.length_singleton] at this
              omega
            rw [h3, ← h4]; simp
          obtain ⟨g, rfl, x0, _, _, _⟩ := HO3.out L _ hlx
          dsimp only at x0
          have HW := Lib.hid (wakes_any w3)
          rw [hL] at hlt' hC1 ⊢
          have hw3 : IntKind.i64.wrap (((L + 1 : Nat) : Int) - 1) = L := by rw [IntWalk.i64_in _ (by omega)]; omega
          have hw4 : IntKind.i64.wrap ((List.countP isFork T : Nat) + 1 : Int) = (List.countP isFork T : Nat) + 1 := IntWalk.i64_in _ (by omega)
          have HLX := Lib.hid hlx; have HLL := Lib.hid hL
          clear hlx hL
          go_wp2_with fail
          refine HW.out.mono ?_
          rintro en w4 ⟨rfl, hB4⟩
          have HB4 := Lib.hid (HB3.out.trans (hB4.mono HB3.out.size)); clear hB4
          go_wp2_with fail
          go_ret
          exact ⟨rfl, HB4.out⟩
end Go.Proofs.Ytkpgnopimnamfaa
