/- Names: value.Name, tree.own. -/
import Derived.Test.YtkpgnopimnamfaaA1
namespace Go.Proofs.Ytkpgnopimnamfaa
open Go.ChangeShapes Go.WideShapes Go.ChangeAt Go.RowKit

def nameC (c : Int) : Bool := decide (97 ≤ c ∧ c ≤ 122 ∨ 48 ≤ c ∧ c ≤ 57 ∨ c = 95)
def byteC (s : ByteArray) (k : Nat) : Int := if h : k < s.size then ((s[k]'h).toNat : Int) else 0
def headB (s : ByteArray) : Bool := !s.toList.isEmpty && decide ((s.size : Int) ≤ 24) && decide (97 ≤ byteC s 0 ∧ byteC s 0 ≤ 122)
/-- Is it a name? -/
def nameB (s : ByteArray) : Bool := headB s && decide (∀ k, k < s.size → nameC (byteC s k) = true)
theorem byteC_eq (s : ByteArray) (k : Nat) (h : k < s.size) : byteC s k = ((s[k]'h).toNat : Int) := by simp [byteC, h]

theorem name_empty (s : ByteArray) (w : World) (h0 : s.toList.isEmpty = true) : Calls Try.prog 35 #[.string s] w fun e w' => e = .returned (.bool (nameB s)) ∧ w = w' := by
  have e : nameB s = false := by simp [nameB, headB, h0]
  have E := Lib.hid e; clear e
  go_enter Try.func35, Try.ntmps35
  go_wp2_with fail
  go_ret
  exact ⟨by rw [E.out]; rfl, rfl⟩
theorem name_long (s : ByteArray) (w : World) (h0 : s.toList.isEmpty = false) (h : 24 < (s.size : Int)) : Calls Try.prog 35 #[.string s] w fun e w' => e = .returned (.bool (nameB s)) ∧ w = w' := by
  have e : nameB s = false := by
    have : ¬ (s.size : Int) ≤ 24 := by omega
    simp [nameB, headB, this]
  have E := Lib.hid e; clear e
  have h2 : decide (24 < (s.size : Int)) = true := by simp; omega
  go_enter Try.func35, Try.ntmps35
  go_wp2_with fail
  go_ret
  exact ⟨by rw [E.out]; rfl, rfl⟩
theorem name_low (s : ByteArray) (w : World) (h0 : s.toList.isEmpty = false) (h : (s.size : Int) ≤ 24) (hp : 0 < s.size) (hl : ((s[0]'hp).toNat : Int) < 97) : Calls Try.prog 35 #[.string s] w fun e w' => e = .returned (.bool (nameB s)) ∧ w = w' := by
  have e : nameB s = false := by
    have : ¬ 97 ≤ byteC s 0 := by rw [byteC_eq s 0 hp]; omega
    simp [nameB, headB, this]
  have E := Lib.hid e; clear e
  have h2 : decide (24 < (s.size : Int)) = false := by simp; omega
  have h3 : decide (((s[0]'hp).toNat : Int) < 97) = true := by simp; omega
  go_enter Try.func35, Try.ntmps35
  go_wp2_with fail
  go_ret
  exact ⟨by rw [E.out]; rfl, rfl⟩
theorem name_high (s : ByteArray) (w : World) (h0 : s.toList.isEmpty = false) (h : (s.size : Int) ≤ 24) (hp : 0 < s.size) (hl : 122 < ((s[0]'hp).toNat : Int)) : Calls Try.prog 35 #[.string s] w fun e w' => e = .returned (.bool (nameB s)) ∧ w = w' := by
  have e : nameB s = false := by
    have : ¬ byteC s 0 ≤ 122 := by rw [byteC_eq s 0 hp]; omega
    simp [nameB, headB, this]
  have E := Lib.hid e; clear e
  have h2 : decide (24 < (s.size : Int)) = false := by simp; omega
  have h3 : decide (((s[0]'hp).toNat : Int) < 97) = false := by simp; omega
  have h4 : decide (122 < ((s[0]'hp).toNat : Int)) = true := by simp; omega
  go_enter Try.func35, Try.ntmps35
  go_wp2_with fail
  go_ret
  exact ⟨by rw [E.out]; rfl, rfl⟩
theorem name_loop (s : ByteArray) (w : World) (h0 : s.toList.isEmpty = false) (h : (s.size : Int) ≤ 24) (hp : 0 < s.size) (hl : 97 ≤ ((s[0]'hp).toNat : Int)) (hh : ((s[0]'hp).toNat : Int) ≤ 122) : Calls Try.prog 35 #[.string s] w fun e w' => e = .returned (.bool (nameB s)) ∧ w = w' := by
  have e : headB s = true := by
    have h1 : 97 ≤ byteC s 0 := by rw [byteC_eq s 0 hp]; exact hl
    have h2 : byteC s 0 ≤ 122 := by rw [byteC_eq s 0 hp]; exact hh
    simp [headB, h0, h, h1, h2]
  have E := Lib.hid e; clear e
  have h2 : decide (24 < (s.size : Int)) = false := by simp; omega
  have h3 : decide (((s[0]'hp).toNat : Int) < 97) = false := by simp; omega
  have h4 : decide (122 < ((s[0]'hp).toNat : Int)) = false := by simp; omega
  go_enter Try.func35, Try.ntmps35
  go_wp2_with fail
  go_loopw [24] (fun i wr => ∃ k : Nat, k ≤ s.size ∧ i = .int .i64 k ∧ wr = w ∧ Hid (∀ j, j < k → nameC (byteC s j) = true)) (fun i _ => s.size - (intOf i).toNat)
  case atStart => exact ⟨0, Nat.zero_le _, rfl, rfl, Lib.hid fun j h => absurd h (Nat.not_lt_zero j)⟩
  case round =>
    obtain ⟨k, hk, rfl, rfl, A⟩ := hrel
    clear h2 h3 h4 hl hh h0
    by_cases hks : k < s.size
    · obtain ⟨c, hc⟩ : ∃ c, ((s[k]'hks).toNat : Int) = c := ⟨_, rfl⟩
      have C := Lib.hid hc
      have hcases : c ≤ 47 ∨ (48 ≤ c ∧ c ≤ 57) ∨ (58 ≤ c ∧ c ≤ 94) ∨ (95 ≤ c ∧ c ≤ 95) ∨ (96 ≤ c ∧ c ≤ 96) ∨ (97 ≤ c ∧ c ≤ 122) ∨ 123 ≤ c := by omega
      rcases hcases with q | ⟨q, q'⟩ | ⟨q, q'⟩ | ⟨q, q'⟩ | ⟨q, q'⟩ | ⟨q, q'⟩ | q
      · have e : nameC c = false := by unfold nameC; simp; omega
        have N := Lib.hid e; clear e
        have g97 : decide (((s[k]'hks).toNat : Int) < 97) = true := by rw [hc]; simp; omega
        have g122 : decide (122 < ((s[k]'hks).toNat : Int)) = false := by rw [hc]; simp; omega
        have g48 : decide (((s[k]'hks).toNat : Int) < 48) = true := by rw [hc]; simp; omega
        have g57 : decide (57 < ((s[k]'hks).toNat : Int)) = false := by rw [hc]; simp; omega
        have g95 : (((s[k]'hks).toNat : Int) == 95) = false := by rw [hc]; simp; omega
        clear hc q
        go_wp2_with fail
        go_ret
        refine ⟨?_, rfl⟩
        have : nameB s = false := by
          have hn : ¬ ∀ k, k < s.size → nameC (byteC s k) = true := fun f => by
            have := f k hks
            rw [byteC_eq s k hks, C.out, N.out] at this; cases this
          simp only [nameB, decide_eq_false hn, Bool.and_false]
        rw [this]; rfl
      · have e : nameC c = true := by unfold nameC; simp; omega
        have N := Lib.hid e; clear e
        have g97 : decide (((s[k]'hks).toNat : Int) < 97) = true := by rw [hc]; simp; omega
        have g122 : decide (122 < ((s[k]'hks).toNat : Int)) = false := by rw [hc]; simp; omega
        have g48 : decide (((s[k]'hks).toNat : Int) < 48) = false := by rw [hc]; simp; omega
        have g57 : decide (57 < ((s[k]'hks).toNat : Int)) = false := by rw [hc]; simp; omega
        have g95 : (((s[k]'hks).toNat : Int) == 95) = false := by rw [hc]; simp; omega
        clear hc q q'
        go_wp2_with fail
        go_roundw
        case rel =>
          refine ⟨k + 1, hks, by go_num, by first | rfl | trivial, Lib.hid fun j hj => ?_⟩
          by_cases hjk : j < k
          · exact A.out j hjk
          · have : j = k := by omega
            subst this
            rw [byteC_eq s j hks, C.out]; exact N.out
        case measure => simp [intOf]; omega
      · have e : nameC c = false := by unfold nameC; simp; omega
        have N := Lib.hid e; clear e
        have g97 : decide (((s[k]'hks).toNat : Int) < 97) = true := by rw [hc]; simp; omega
        have g122 : decide (122 < ((s[k]'hks).toNat : Int)) = false := by rw [hc]; simp; omega
        have g48 : decide (((s[k]'hks).toNat : Int) < 48) = false := by rw [hc]; simp; omega
        have g57 : decide (57 < ((s[k]'hks).toNat : Int)) = true := by rw [hc]; simp; omega
        have g95 : (((s[k]'hks).toNat : Int) == 95) = false := by rw [hc]; simp; omega
        clear hc q q'
        go_wp2_with fail
        go_ret
        refine ⟨?_, rfl⟩
        have : nameB s = false := by
          have hn : ¬ ∀ k, k < s.size → nameC (byteC s k) = true := fun f => by
            have := f k hks
            rw [byteC_eq s k hks, C.out, N.out] at this; cases this
          simp only [nameB, decide_eq_false hn, Bool.and_false]
        rw [this]; rfl
      · have e : nameC c = true := by unfold nameC; simp; omega
        have N := Lib.hid e; clear e
        have g97 : decide (((s[k]'hks).toNat : Int) < 97) = true := by rw [hc]; simp; omega
        have g122 : decide (122 < ((s[k]'hks).toNat : Int)) = false := by rw [hc]; simp; omega
        have g48 : decide (((s[k]'hks).toNat : Int) < 48) = false := by rw [hc]; simp; omega
        have g57 : decide (57 < ((s[k]'hks).toNat : Int)) = true := by rw [hc]; simp; omega
        have g95 : (((s[k]'hks).toNat : Int) == 95) = true := by rw [hc]; simp; omega
        clear hc q q'
        go_wp2_with fail
        go_roundw
        case rel =>
          refine ⟨k + 1, hks, by go_num, by first | rfl | trivial, Lib.hid fun j hj => ?_⟩
          by_cases hjk : j < k
          · exact A.out j hjk
          · have : j = k := by omega
            subst this
            rw [byteC_eq s j hks, C.out]; exact N.out
        case measure => simp [intOf]; omega
      · have e : nameC c = false := by unfold nameC; simp; omega
        have N := Lib.hid e; clear e
        have g97 : decide (((s[k]'hks).toNat : Int) < 97) = true := by rw [hc]; simp; omega
        have g122 : decide (122 < ((s[k]'hks).toNat : Int)) = false := by rw [hc]; simp; omega
        have g48 : decide (((s[k]'hks).toNat : Int) < 48) = false := by rw [hc]; simp; omega
        have g57 : decide (57 < ((s[k]'hks).toNat : Int)) = true := by rw [hc]; simp; omega
        have g95 : (((s[k]'hks).toNat : Int) == 95) = false := by rw [hc]; simp; omega
        clear hc q q'
        go_wp2_with fail
        go_ret
        refine ⟨?_, rfl⟩
        have : nameB s = false := by
          have hn : ¬ ∀ k, k < s.size → nameC (byteC s k) = true := fun f => by
            have := f k hks
            rw [byteC_eq s k hks, C.out, N.out] at this; cases this
          simp only [nameB, decide_eq_false hn, Bool.and_false]
        rw [this]; rfl
      · have e : nameC c = true := by unfold nameC; simp; omega
        have N := Lib.hid e; clear e
        have g97 : decide (((s[k]'hks).toNat : Int) < 97) = false := by rw [hc]; simp; omega
        have g122 : decide (122 < ((s[k]'hks).toNat : Int)) = false := by rw [hc]; simp; omega
        have g48 : decide (((s[k]'hks).toNat : Int) < 48) = false := by rw [hc]; simp; omega
        have g57 : decide (57 < ((s[k]'hks).toNat : Int)) = true := by rw [hc]; simp; omega
        have g95 : (((s[k]'hks).toNat : Int) == 95) = false := by rw [hc]; simp; omega
        clear hc q q'
        go_wp2_with fail
        go_roundw
        case rel =>
          refine ⟨k + 1, hks, by go_num, by first | rfl | trivial, Lib.hid fun j hj => ?_⟩
          by_cases hjk : j < k
          · exact A.out j hjk
          · have : j = k := by omega
            subst this
            rw [byteC_eq s j hks, C.out]; exact N.out
        case measure => simp [intOf]; omega
      · have e : nameC c = false := by unfold nameC; simp; omega
        have N := Lib.hid e; clear e
        have g97 : decide (((s[k]'hks).toNat : Int) < 97) = false := by rw [hc]; simp; omega
        have g122 : decide (122 < ((s[k]'hks).toNat : Int)) = true := by rw [hc]; simp; omega
        have g48 : decide (((s[k]'hks).toNat : Int) < 48) = false := by rw [hc]; simp; omega
        have g57 : decide (57 < ((s[k]'hks).toNat : Int)) = true := by rw [hc]; simp; omega
        have g95 : (((s[k]'hks).toNat : Int) == 95) = false := by rw [hc]; simp; omega
        clear hc q
        go_wp2_with fail
        go_ret
        refine ⟨?_, rfl⟩
        have : nameB s = false := by
          have hn : ¬ ∀ k, k < s.size → nameC (byteC s k) = true := fun f => by
            have := f k hks
            rw [byteC_eq s k hks, C.out, N.out] at this; cases this
          simp only [nameB, decide_eq_false hn, Bool.and_false]
        rw [this]; rfl
    · have hk' : k = s.size := by omega
      subst hk'
      go_wp2_with fail
      go_ret
      refine ⟨?_, rfl⟩
      have : nameB s = true := by simp only [nameB, E.out, Bool.true_and]; exact decide_eq_true A.out
      rw [this]; rfl
theorem name_any (s : ByteArray) (w : World) : Calls Try.prog 35 #[.string s] w fun e w' => e = .returned (.bool (nameB s)) ∧ w = w' := by
  cases h0 : s.toList.isEmpty
  · have hp : 0 < s.size := by
      rcases Nat.eq_zero_or_pos s.size with h | h
      · have : s = ByteArray.empty := by
          apply ByteArray.ext; apply Array.eq_empty_of_size_eq_zero; exact h
        subst this; exact absurd h0 (by simp [ByteArray.toList, ByteArray.toList.loop])
      · exact h
    by_cases h : (s.size : Int) ≤ 24
    · by_cases hl : ((s[0]'hp).toNat : Int) < 97
      · exact name_low s w h0 h hp hl
      · by_cases hh : 122 < ((s[0]'hp).toNat : Int)
        · exact name_high s w h0 h hp hh
        · exact name_loop s w h0 h hp (by omega) (by omega)
    · exact name_long s w h0 (by omega)
  · exact name_empty s w h0
/-- A word of one's own. -/
def ownB (s : ByteArray) : Bool := nameB s && !kwB s
theorem own_any (s : ByteArray) (w : World) : Calls Try.prog 39 #[.string s] w fun e w' => e = .returned (.bool (ownB s)) ∧ w = w' := by
  obtain ⟨p, hp⟩ : ∃ p, nameB s = p := ⟨_, rfl⟩
  obtain ⟨q, hq⟩ : ∃ q, kwB s = q := ⟨_, rfl⟩
  have P := Lib.hid hp; have Q := Lib.hid hq; clear hp hq
  cases p <;> cases q
  all_goals
    go_enter Try.func39, Try.ntmps39
    go_wp2_with fail
    refine (name_any _ _).mono ?_
    rw [P.out]
    rintro e w' ⟨rfl, rfl⟩
    go_wp2_with fail
    first
      | (refine (kw_any _ _).mono ?_
         rw [Q.out]
         rintro e w' ⟨rfl, rfl⟩
         go_wp2
         go_ret
         exact ⟨by rw [ownB, P.out, Q.out]; rfl, rfl⟩)
      | (go_ret
         exact ⟨by rw [ownB, P.out]; rfl, rfl⟩)
end Go.Proofs.Ytkpgnopimnamfaa
