/- tree.forms: the map of what a twig may be. -/
import Derived.Test.YtkpgnopimnamfaaA3
namespace Go.Proofs.Ytkpgnopimnamfaa
open Go.ChangeShapes Go.WideShapes Go.ChangeAt Go.RowKit
theorem und72 : Try.prog.underlying 72 = some (.map 5 78) := by kernel_rfl
theorem und5 : Try.prog.underlying 5 = some (.int .u8) := by kernel_rfl
def formZ : Value := .agg #[.nilFunc, .int .i64 0, .int .i64 0, .nilFunc]
theorem zero78 (w : World) : (zeroValue 78).run Try.prog w = .ok formZ w := by kernel_rfl
def formV (t : Nat) (l m : Int) (p : Nat) : Value := .agg #[.func (.func t) #[] #[], .int .i64 l, .int .i64 m, .func (.func p) #[] #[]]
abbrev key8 : Int → Value := fun a => Value.int .u8 a
/-- The forms, by what a twig is. -/
def formT (op : Int) : Option (Nat × Int × Int × Nat) :=
  if op = 1 then some (39, 1, 2048, 40) else
  if op = 2 ∨ op = 26 ∨ op = 56 then some (39, 0, 0, 41) else
  if op = 3 then some (42, 0, 2048, 43) else
  if op = 6 then some (42, 2, 3, 44) else
  if op = 7 then some (42, 2, 2, 44) else
  if op = 24 then some (45, 0, 0, 41) else
  if op = 25 then some (42, 0, 2048, 46) else
  if op = 53 then some (42, 1, 1, 47) else
  if op = 20 ∨ op = 21 ∨ op = 22 ∨ op = 23 ∨ op = 57 then some (42, 0, 0, 41) else
  if op = 4 ∨ op = 5 then some (39, 1, 1, 46) else
  if op = 8 ∨ op = 9 ∨ op = 10 ∨ op = 11 ∨ op = 43 ∨ op = 44 ∨ op = 45 ∨ op = 46 ∨ op = 47 ∨ op = 48 ∨ op = 52 ∨ op = 54 ∨ op = 55 then some (42, 1, 1, 46) else
  if op = 30 ∨ op = 31 ∨ op = 32 ∨ op = 33 ∨ op = 34 ∨ op = 35 ∨ op = 36 ∨ op = 37 ∨ op = 38 ∨ op = 39 ∨ op = 40 ∨ op = 41 ∨ op = 42 then some (42, 2, 2, 46) else
  if op = 50 ∨ op = 51 then some (39, 0, 2048, 46) else
  none
def formA (op : Int) : Option Value := (formT op).map fun f => formV f.1 f.2.1 f.2.2.1 f.2.2.2
/-- The map while it is filled: the nine that were laid first, and all below k. -/
def formK (k op : Int) : Option Value := if op < k ∨ op ∈ ([1, 2, 3, 6, 7, 24, 25, 53, 23] : List Int) then formA op else none
theorem formA_none (op : Int) (h : op < 1 ∨ 57 < op) : formA op = none := by
  have : formT op = none := by
    unfold formT
    repeat (rw [if_neg (by omega)])
  simp [formA, this]
theorem formK_start (op : Int) : formK 1 op = if op ∈ ([1, 2, 3, 6, 7, 24, 25, 53, 23] : List Int) then formA op else none := by
  unfold formK
  by_cases h : op < 1
  · rw [if_pos (.inl h), formA_none op (.inl h)]; simp
  · simp [h]
theorem formK_end (op : Int) : formK 58 op = formA op := by
  unfold formK
  by_cases h : op < 58
  · rw [if_pos (.inl h)]
  · rw [formA_none op (.inr (by omega))]; simp
theorem formK_more (k op : Int) (v : Value) (hv : formA k = some v) : (if op = k then some v else formK k op) = formK (k + 1) op := by
  unfold formK
  by_cases h : op = k
  · subst h; simp [hv]; omega
  · have : op < k + 1 ↔ op < k := by omega
    simp [h, this]
theorem formK_same (k op : Int) (hk : k ∈ ([1, 2, 3, 6, 7, 24, 25, 53, 23] : List Int) ∨ formA k = none) : formK k op = formK (k + 1) op := by
  unfold formK
  by_cases h : op = k
  · subst h
    rcases hk with hk | hk
    · rw [if_pos (.inr hk), if_pos (.inr hk)]
    · rw [hk]; simp
  · have : op < k + 1 ↔ op < k := by omega
    simp [this]
def Forms (w : World) (H : Nat) : Prop := ∃ L, MapAt key8 w H L ∧ ∀ op, lk L op = formA op
def FormRel (w wr : World) (k : Int) : Prop := ∃ L, MapAt key8 wr w.heap.size L ∧ (∀ op, lk L op = formK k op) ∧ Below w.heap.size w wr
def lits : List (Int × Value) := [(1, formV 39 1 2048 40), (2, formV 39 0 0 41), (3, formV 42 0 2048 43), (6, formV 42 2 3 44), (7, formV 42 2 2 44), (24, formV 45 0 0 41), (25, formV 42 0 2048 46), (53, formV 42 1 1 47), (23, formV 42 0 0 41)]
set_option maxRecDepth 100000 in
set_option maxHeartbeats 8000000 in
theorem forms_any (w : World) : Calls Try.prog 30 #[] w fun e w' => e = .returned (.map (some w.heap.size)) ∧ Forms w' w.heap.size ∧ Below w.heap.size w w' := by
  have hmk : (Instr.makeMap 72 none).run Try.prog w = .ok (.map (some w.heap.size)) (w.alloc (.map #[] 0)) := rfl
  have M0 := mapAt_new key8 w
  go_enter Try.func30, Try.ntmps30
  go_wp2_with (first
    | (refine wpList_ins _ rfl (.tmp 5) (.const (.int .u8 1)) _ rfl und5 und72 kind_u8 _ _ rfl M0 1 (formV 39 1 2048 40) rfl rfl rfl ?_; intro w1 M1 U1)
    | (refine wpList_ins _ rfl (.tmp 5) (.const (.int .u8 2)) _ rfl und5 und72 kind_u8 _ _ rfl M1 2 (formV 39 0 0 41) rfl rfl rfl ?_; intro w2 M2 U2)
    | (refine wpList_ins _ rfl (.tmp 5) (.const (.int .u8 3)) _ rfl und5 und72 kind_u8 _ _ rfl M2 3 (formV 42 0 2048 43) rfl rfl rfl ?_; intro w3 M3 U3)
    | (refine wpList_ins _ rfl (.tmp 5) (.const (.int .u8 6)) _ rfl und5 und72 kind_u8 _ _ rfl M3 6 (formV 42 2 3 44) rfl rfl rfl ?_; intro w4 M4 U4)
    | (refine wpList_ins _ rfl (.tmp 5) (.const (.int .u8 7)) _ rfl und5 und72 kind_u8 _ _ rfl M4 7 (formV 42 2 2 44) rfl rfl rfl ?_; intro w5 M5 U5)
    | (refine wpList_ins _ rfl (.tmp 5) (.const (.int .u8 24)) _ rfl und5 und72 kind_u8 _ _ rfl M5 24 (formV 45 0 0 41) rfl rfl rfl ?_; intro w6 M6 U6)
    | (refine wpList_ins _ rfl (.tmp 5) (.const (.int .u8 25)) _ rfl und5 und72 kind_u8 _ _ rfl M6 25 (formV 42 0 2048 46) rfl rfl rfl ?_; intro w7 M7 U7)
    | (refine wpList_ins _ rfl (.tmp 5) (.const (.int .u8 53)) _ rfl und5 und72 kind_u8 _ _ rfl M7 53 (formV 42 1 1 47) rfl rfl rfl ?_; intro w8 M8 U8)
    | (refine wpList_ins _ rfl (.tmp 5) (.const (.int .u8 23)) _ rfl und5 und72 kind_u8 _ _ rfl M8 23 (formV 42 0 0 41) rfl rfl rfl ?_; intro w9 M9 U9))
  have hB : Below w.heap.size w w9 := U9.below (U8.below (U7.below (U6.below (U5.below (U4.below (U3.below (U2.below (U1.below ((Below.refl w.heap.size w).alloc (Nat.le_refl _) _) (Nat.le_refl _)) (Nat.le_refl _)) (Nat.le_refl _)) (Nat.le_refl _)) (Nat.le_refl _)) (Nat.le_refl _)) (Nat.le_refl _)) (Nat.le_refl _)) (Nat.le_refl _)
  have hL : ∀ op, lk lits op = formK 1 op := fun op => by
    rw [formK_start]
    by_cases h : op ∈ ([1, 2, 3, 6, 7, 24, 25, 53, 23] : List Int)
    · rw [if_pos h]
      simp only [List.mem_cons, List.not_mem_nil, or_false] at h
      rcases h with rfl | rfl | rfl | rfl | rfl | rfl | rfl | rfl | rfl <;> rfl
    · rw [if_neg h]
      simp only [List.mem_cons, List.not_mem_nil, or_false, not_or] at h
      obtain ⟨h1, h2, h3, h4, h5, h6, h7, h8, h9⟩ := h
      simp [lk, lits, Ne.symm h1, Ne.symm h2, Ne.symm h3, Ne.symm h4, Ne.symm h5, Ne.symm h6, Ne.symm h7, Ne.symm h8, Ne.symm h9]
  have hR : FormRel w w9 1 := ⟨lits, M9, hL, hB⟩
  clear M0 M1 M2 M3 M4 M5 M6 M7 M8 M9 U1 U2 U3 U4 U5 U6 U7 U8 U9 hB hL hmk
  go_wp2_with fail
  go_loopw [2] (fun i wr => ∃ k : Int, 1 ≤ k ∧ k ≤ 58 ∧ i = .int .u8 k ∧ FormRel w wr k) (fun i _ => 58 - (intOf i).toNat)
  case atStart => exact ⟨1, by omega, by omega, rfl, hR⟩
  case round =>
    clear hR
    obtain ⟨k, hk1, hk2, rfl, L, M, HL, HB⟩ := hrel
    have HLh := Lib.hid HL; clear HL
    have HBh := Lib.hid HB; clear HB
    have hk : k = 1 ∨ k = 2 ∨ k = 3 ∨ k = 4 ∨ k = 5 ∨ k = 6 ∨ k = 7 ∨ k = 8 ∨ k = 9 ∨ k = 10 ∨ k = 11 ∨ k = 12 ∨ k = 13 ∨ k = 14 ∨ k = 15 ∨ k = 16 ∨ k = 17 ∨ k = 18 ∨ k = 19 ∨ k = 20 ∨ k = 21 ∨ k = 22 ∨ k = 23 ∨ k = 24 ∨ k = 25 ∨ k = 26 ∨ k = 27 ∨ k = 28 ∨ k = 29 ∨ k = 30 ∨ k = 31 ∨ k = 32 ∨ k = 33 ∨ k = 34 ∨ k = 35 ∨ k = 36 ∨ k = 37 ∨ k = 38 ∨ k = 39 ∨ k = 40 ∨ k = 41 ∨ k = 42 ∨ k = 43 ∨ k = 44 ∨ k = 45 ∨ k = 46 ∨ k = 47 ∨ k = 48 ∨ k = 49 ∨ k = 50 ∨ k = 51 ∨ k = 52 ∨ k = 53 ∨ k = 54 ∨ k = 55 ∨ k = 56 ∨ k = 57 ∨ k = 58 := by omega
    clear hk1 hk2
    rcases hk with rfl | rfl | rfl | rfl | rfl | rfl | rfl | rfl | rfl | rfl | rfl | rfl | rfl | rfl | rfl | rfl | rfl | rfl | rfl | rfl | rfl | rfl | rfl | rfl | rfl | rfl | rfl | rfl | rfl | rfl | rfl | rfl | rfl | rfl | rfl | rfl | rfl | rfl | rfl | rfl | rfl | rfl | rfl | rfl | rfl | rfl | rfl | rfl | rfl | rfl | rfl | rfl | rfl | rfl | rfl | rfl | rfl | rfl
    · go_wp2_with (refine wpList_look _ rfl (.tmp 21) (.tmp 22) rfl und5 und72 kind_u8 zero78 _ _ rfl M 1 rfl (.agg #[.func (.func 39) #[] #[], .int .i64 1, .int .i64 2048, .func (.func 40) #[] #[]]) true (by rw [HLh.out]; rfl) (by rw [HLh.out]; rfl) ?_)
      go_roundw
      case rel => exact ⟨2, by omega, by omega, by go_num, L, M.alloc _, fun op => (HLh.out op).trans (formK_same 1 op (.inl (by decide))), HBh.out.alloc HBh.out.size _⟩
      case measure => simp [intOf]
    · go_wp2_with (refine wpList_look _ rfl (.tmp 21) (.tmp 22) rfl und5 und72 kind_u8 zero78 _ _ rfl M 2 rfl (.agg #[.func (.func 39) #[] #[], .int .i64 0, .int .i64 0, .func (.func 41) #[] #[]]) true (by rw [HLh.out]; rfl) (by rw [HLh.out]; rfl) ?_)
      go_roundw
      case rel => exact ⟨3, by omega, by omega, by go_num, L, M.alloc _, fun op => (HLh.out op).trans (formK_same 2 op (.inl (by decide))), HBh.out.alloc HBh.out.size _⟩
      case measure => simp [intOf]
    · go_wp2_with (refine wpList_look _ rfl (.tmp 21) (.tmp 22) rfl und5 und72 kind_u8 zero78 _ _ rfl M 3 rfl (.agg #[.func (.func 42) #[] #[], .int .i64 0, .int .i64 2048, .func (.func 43) #[] #[]]) true (by rw [HLh.out]; rfl) (by rw [HLh.out]; rfl) ?_)
      go_roundw
      case rel => exact ⟨4, by omega, by omega, by go_num, L, M.alloc _, fun op => (HLh.out op).trans (formK_same 3 op (.inl (by decide))), HBh.out.alloc HBh.out.size _⟩
      case measure => simp [intOf]
    · go_wp2_with (first
        | (refine wpList_look _ rfl (.tmp 21) (.tmp 22) rfl und5 und72 kind_u8 zero78 _ _ rfl M 4 rfl (.agg #[.nilFunc, .int .i64 0, .int .i64 0, .nilFunc]) false (by rw [HLh.out]; rfl) (by rw [HLh.out]; rfl) ?_)
        | (refine wpList_put _ rfl _ _ _ rfl und5 und72 kind_u8 _ _ rfl (M.alloc _) 4 (.agg #[.func (.func 39) #[] #[], .int .i64 1, .int .i64 1, .func (.func 46) #[] #[]]) rfl rfl (by rw [HLh.out]; rfl) ?_; intro wx MX UX))
      go_roundw
      case rel => exact ⟨5, by omega, by omega, by go_num, _, MX, fun op => by rw [lk_snoc _ _ _ _ (by rw [HLh.out]; rfl), HLh.out]; exact formK_more 4 op _ rfl, UX.below (HBh.out.alloc HBh.out.size _) (Nat.le_refl _)⟩
      case measure => simp [intOf]
    · go_wp2_with (first
        | (refine wpList_look _ rfl (.tmp 21) (.tmp 22) rfl und5 und72 kind_u8 zero78 _ _ rfl M 5 rfl (.agg #[.nilFunc, .int .i64 0, .int .i64 0, .nilFunc]) false (by rw [HLh.out]; rfl) (by rw [HLh.out]; rfl) ?_)
        | (refine wpList_put _ rfl _ _ _ rfl und5 und72 kind_u8 _ _ rfl (M.alloc _) 5 (.agg #[.func (.func 39) #[] #[], .int .i64 1, .int .i64 1, .func (.func 46) #[] #[]]) rfl rfl (by rw [HLh.out]; rfl) ?_; intro wx MX UX))
      go_roundw
      case rel => exact ⟨6, by omega, by omega, by go_num, _, MX, fun op => by rw [lk_snoc _ _ _ _ (by rw [HLh.out]; rfl), HLh.out]; exact formK_more 5 op _ rfl, UX.below (HBh.out.alloc HBh.out.size _) (Nat.le_refl _)⟩
      case measure => simp [intOf]
    · go_wp2_with (refine wpList_look _ rfl (.tmp 21) (.tmp 22) rfl und5 und72 kind_u8 zero78 _ _ rfl M 6 rfl (.agg #[.func (.func 42) #[] #[], .int .i64 2, .int .i64 3, .func (.func 44) #[] #[]]) true (by rw [HLh.out]; rfl) (by rw [HLh.out]; rfl) ?_)
      go_roundw
      case rel => exact ⟨7, by omega, by omega, by go_num, L, M.alloc _, fun op => (HLh.out op).trans (formK_same 6 op (.inl (by decide))), HBh.out.alloc HBh.out.size _⟩
      case measure => simp [intOf]
    · go_wp2_with (refine wpList_look _ rfl (.tmp 21) (.tmp 22) rfl und5 und72 kind_u8 zero78 _ _ rfl M 7 rfl (.agg #[.func (.func 42) #[] #[], .int .i64 2, .int .i64 2, .func (.func 44) #[] #[]]) true (by rw [HLh.out]; rfl) (by rw [HLh.out]; rfl) ?_)
      go_roundw
      case rel => exact ⟨8, by omega, by omega, by go_num, L, M.alloc _, fun op => (HLh.out op).trans (formK_same 7 op (.inl (by decide))), HBh.out.alloc HBh.out.size _⟩
      case measure => simp [intOf]
    · go_wp2_with (first
        | (refine wpList_look _ rfl (.tmp 21) (.tmp 22) rfl und5 und72 kind_u8 zero78 _ _ rfl M 8 rfl (.agg #[.nilFunc, .int .i64 0, .int .i64 0, .nilFunc]) false (by rw [HLh.out]; rfl) (by rw [HLh.out]; rfl) ?_)
        | (refine wpList_put _ rfl _ _ _ rfl und5 und72 kind_u8 _ _ rfl (M.alloc _) 8 (.agg #[.func (.func 42) #[] #[], .int .i64 1, .int .i64 1, .func (.func 46) #[] #[]]) rfl rfl (by rw [HLh.out]; rfl) ?_; intro wx MX UX))
      go_roundw
      case rel => exact ⟨9, by omega, by omega, by go_num, _, MX, fun op => by rw [lk_snoc _ _ _ _ (by rw [HLh.out]; rfl), HLh.out]; exact formK_more 8 op _ rfl, UX.below (HBh.out.alloc HBh.out.size _) (Nat.le_refl _)⟩
      case measure => simp [intOf]
    · go_wp2_with (first
        | (refine wpList_look _ rfl (.tmp 21) (.tmp 22) rfl und5 und72 kind_u8 zero78 _ _ rfl M 9 rfl (.agg #[.nilFunc, .int .i64 0, .int .i64 0, .nilFunc]) false (by rw [HLh.out]; rfl) (by rw [HLh.out]; rfl) ?_)
        | (refine wpList_put _ rfl _ _ _ rfl und5 und72 kind_u8 _ _ rfl (M.alloc _) 9 (.agg #[.func (.func 42) #[] #[], .int .i64 1, .int .i64 1, .func (.func 46) #[] #[]]) rfl rfl (by rw [HLh.out]; rfl) ?_; intro wx MX UX))
      go_roundw
      case rel => exact ⟨10, by omega, by omega, by go_num, _, MX, fun op => by rw [lk_snoc _ _ _ _ (by rw [HLh.out]; rfl), HLh.out]; exact formK_more 9 op _ rfl, UX.below (HBh.out.alloc HBh.out.size _) (Nat.le_refl _)⟩
      case measure => simp [intOf]
    · go_wp2_with (first
        | (refine wpList_look _ rfl (.tmp 21) (.tmp 22) rfl und5 und72 kind_u8 zero78 _ _ rfl M 10 rfl (.agg #[.nilFunc, .int .i64 0, .int .i64 0, .nilFunc]) false (by rw [HLh.out]; rfl) (by rw [HLh.out]; rfl) ?_)
        | (refine wpList_put _ rfl _ _ _ rfl und5 und72 kind_u8 _ _ rfl (M.alloc _) 10 (.agg #[.func (.func 42) #[] #[], .int .i64 1, .int .i64 1, .func (.func 46) #[] #[]]) rfl rfl (by rw [HLh.out]; rfl) ?_; intro wx MX UX))
      go_roundw
      case rel => exact ⟨11, by omega, by omega, by go_num, _, MX, fun op => by rw [lk_snoc _ _ _ _ (by rw [HLh.out]; rfl), HLh.out]; exact formK_more 10 op _ rfl, UX.below (HBh.out.alloc HBh.out.size _) (Nat.le_refl _)⟩
      case measure => simp [intOf]
    · go_wp2_with (first
        | (refine wpList_look _ rfl (.tmp 21) (.tmp 22) rfl und5 und72 kind_u8 zero78 _ _ rfl M 11 rfl (.agg #[.nilFunc, .int .i64 0, .int .i64 0, .nilFunc]) false (by rw [HLh.out]; rfl) (by rw [HLh.out]; rfl) ?_)
        | (refine wpList_put _ rfl _ _ _ rfl und5 und72 kind_u8 _ _ rfl (M.alloc _) 11 (.agg #[.func (.func 42) #[] #[], .int .i64 1, .int .i64 1, .func (.func 46) #[] #[]]) rfl rfl (by rw [HLh.out]; rfl) ?_; intro wx MX UX))
      go_roundw
      case rel => exact ⟨12, by omega, by omega, by go_num, _, MX, fun op => by rw [lk_snoc _ _ _ _ (by rw [HLh.out]; rfl), HLh.out]; exact formK_more 11 op _ rfl, UX.below (HBh.out.alloc HBh.out.size _) (Nat.le_refl _)⟩
      case measure => simp [intOf]
    · go_wp2_with (refine wpList_look _ rfl (.tmp 21) (.tmp 22) rfl und5 und72 kind_u8 zero78 _ _ rfl M 12 rfl (.agg #[.nilFunc, .int .i64 0, .int .i64 0, .nilFunc]) false (by rw [HLh.out]; rfl) (by rw [HLh.out]; rfl) ?_)
      go_roundw
      case rel => exact ⟨13, by omega, by omega, by go_num, L, M.alloc _, fun op => (HLh.out op).trans (formK_same 12 op (.inr rfl)), HBh.out.alloc HBh.out.size _⟩
      case measure => simp [intOf]
    · go_wp2_with (refine wpList_look _ rfl (.tmp 21) (.tmp 22) rfl und5 und72 kind_u8 zero78 _ _ rfl M 13 rfl (.agg #[.nilFunc, .int .i64 0, .int .i64 0, .nilFunc]) false (by rw [HLh.out]; rfl) (by rw [HLh.out]; rfl) ?_)
      go_roundw
      case rel => exact ⟨14, by omega, by omega, by go_num, L, M.alloc _, fun op => (HLh.out op).trans (formK_same 13 op (.inr rfl)), HBh.out.alloc HBh.out.size _⟩
      case measure => simp [intOf]
    · go_wp2_with (refine wpList_look _ rfl (.tmp 21) (.tmp 22) rfl und5 und72 kind_u8 zero78 _ _ rfl M 14 rfl (.agg #[.nilFunc, .int .i64 0, .int .i64 0, .nilFunc]) false (by rw [HLh.out]; rfl) (by rw [HLh.out]; rfl) ?_)
      go_roundw
      case rel => exact ⟨15, by omega, by omega, by go_num, L, M.alloc _, fun op => (HLh.out op).trans (formK_same 14 op (.inr rfl)), HBh.out.alloc HBh.out.size _⟩
      case measure => simp [intOf]
    · go_wp2_with (refine wpList_look _ rfl (.tmp 21) (.tmp 22) rfl und5 und72 kind_u8 zero78 _ _ rfl M 15 rfl (.agg #[.nilFunc, .int .i64 0, .int .i64 0, .nilFunc]) false (by rw [HLh.out]; rfl) (by rw [HLh.out]; rfl) ?_)
      go_roundw
      case rel => exact ⟨16, by omega, by omega, by go_num, L, M.alloc _, fun op => (HLh.out op).trans (formK_same 15 op (.inr rfl)), HBh.out.alloc HBh.out.size _⟩
      case measure => simp [intOf]
    · go_wp2_with (refine wpList_look _ rfl (.tmp 21) (.tmp 22) rfl und5 und72 kind_u8 zero78 _ _ rfl M 16 rfl (.agg #[.nilFunc, .int .i64 0, .int .i64 0, .nilFunc]) false (by rw [HLh.out]; rfl) (by rw [HLh.out]; rfl) ?_)
      go_roundw
      case rel => exact ⟨17, by omega, by omega, by go_num, L, M.alloc _, fun op => (HLh.out op).trans (formK_same 16 op (.inr rfl)), HBh.out.alloc HBh.out.size _⟩
      case measure => simp [intOf]
    · go_wp2_with (refine wpList_look _ rfl (.tmp 21) (.tmp 22) rfl und5 und72 kind_u8 zero78 _ _ rfl M 17 rfl (.agg #[.nilFunc, .int .i64 0, .int .i64 0, .nilFunc]) false (by rw [HLh.out]; rfl) (by rw [HLh.out]; rfl) ?_)
      go_roundw
      case rel => exact ⟨18, by omega, by omega, by go_num, L, M.alloc _, fun op => (HLh.out op).trans (formK_same 17 op (.inr rfl)), HBh.out.alloc HBh.out.size _⟩
      case measure => simp [intOf]
    · go_wp2_with (refine wpList_look _ rfl (.tmp 21) (.tmp 22) rfl und5 und72 kind_u8 zero78 _ _ rfl M 18 rfl (.agg #[.nilFunc, .int .i64 0, .int .i64 0, .nilFunc]) false (by rw [HLh.out]; rfl) (by rw [HLh.out]; rfl) ?_)
      go_roundw
      case rel => exact ⟨19, by omega, by omega, by go_num, L, M.alloc _, fun op => (HLh.out op).trans (formK_same 18 op (.inr rfl)), HBh.out.alloc HBh.out.size _⟩
      case measure => simp [intOf]
    · go_wp2_with (refine wpList_look _ rfl (.tmp 21) (.tmp 22) rfl und5 und72 kind_u8 zero78 _ _ rfl M 19 rfl (.agg #[.nilFunc, .int .i64 0, .int .i64 0, .nilFunc]) false (by rw [HLh.out]; rfl) (by rw [HLh.out]; rfl) ?_)
      go_roundw
      case rel => exact ⟨20, by omega, by omega, by go_num, L, M.alloc _, fun op => (HLh.out op).trans (formK_same 19 op (.inr rfl)), HBh.out.alloc HBh.out.size _⟩
      case measure => simp [intOf]
    · go_wp2_with (first
        | (refine wpList_look _ rfl (.tmp 21) (.tmp 22) rfl und5 und72 kind_u8 zero78 _ _ rfl M 20 rfl (.agg #[.nilFunc, .int .i64 0, .int .i64 0, .nilFunc]) false (by rw [HLh.out]; rfl) (by rw [HLh.out]; rfl) ?_)
        | (refine wpList_put _ rfl _ _ _ rfl und5 und72 kind_u8 _ _ rfl (M.alloc _) 20 (.agg #[.func (.func 42) #[] #[], .int .i64 0, .int .i64 0, .func (.func 41) #[] #[]]) rfl rfl (by rw [HLh.out]; rfl) ?_; intro wx MX UX))
      go_roundw
      case rel => exact ⟨21, by omega, by omega, by go_num, _, MX, fun op => by rw [lk_snoc _ _ _ _ (by rw [HLh.out]; rfl), HLh.out]; exact formK_more 20 op _ rfl, UX.below (HBh.out.alloc HBh.out.size _) (Nat.le_refl _)⟩
      case measure => simp [intOf]
    · go_wp2_with (first
        | (refine wpList_look _ rfl (.tmp 21) (.tmp 22) rfl und5 und72 kind_u8 zero78 _ _ rfl M 21 rfl (.agg #[.nilFunc, .int .i64 0, .int .i64 0, .nilFunc]) false (by rw [HLh.out]; rfl) (by rw [HLh.out]; rfl) ?_)
        | (refine wpList_put _ rfl _ _ _ rfl und5 und72 kind_u8 _ _ rfl (M.alloc _) 21 (.agg #[.func (.func 42) #[] #[], .int .i64 0, .int .i64 0, .func (.func 41) #[] #[]]) rfl rfl (by rw [HLh.out]; rfl) ?_; intro wx MX UX))
      go_roundw
      case rel => exact ⟨22, by omega, by omega, by go_num, _, MX, fun op => by rw [lk_snoc _ _ _ _ (by rw [HLh.out]; rfl), HLh.out]; exact formK_more 21 op _ rfl, UX.below (HBh.out.alloc HBh.out.size _) (Nat.le_refl _)⟩
      case measure => simp [intOf]
    · go_wp2_with (first
        | (refine wpList_look _ rfl (.tmp 21) (.tmp 22) rfl und5 und72 kind_u8 zero78 _ _ rfl M 22 rfl (.agg #[.nilFunc, .int .i64 0, .int .i64 0, .nilFunc]) false (by rw [HLh.out]; rfl) (by rw [HLh.out]; rfl) ?_)
        | (refine wpList_put _ rfl _ _ _ rfl und5 und72 kind_u8 _ _ rfl (M.alloc _) 22 (.agg #[.func (.func 42) #[] #[], .int .i64 0, .int .i64 0, .func (.func 41) #[] #[]]) rfl rfl (by rw [HLh.out]; rfl) ?_; intro wx MX UX))
      go_roundw
      case rel => exact ⟨23, by omega, by omega, by go_num, _, MX, fun op => by rw [lk_snoc _ _ _ _ (by rw [HLh.out]; rfl), HLh.out]; exact formK_more 22 op _ rfl, UX.below (HBh.out.alloc HBh.out.size _) (Nat.le_refl _)⟩
      case measure => simp [intOf]
    · go_wp2_with (refine wpList_look _ rfl (.tmp 21) (.tmp 22) rfl und5 und72 kind_u8 zero78 _ _ rfl M 23 rfl (.agg #[.func (.func 42) #[] #[], .int .i64 0, .int .i64 0, .func (.func 41) #[] #[]]) true (by rw [HLh.out]; rfl) (by rw [HLh.out]; rfl) ?_)
      go_roundw
      case rel => exact ⟨24, by omega, by omega, by go_num, L, M.alloc _, fun op => (HLh.out op).trans (formK_same 23 op (.inl (by decide))), HBh.out.alloc HBh.out.size _⟩
      case measure => simp [intOf]
    · go_wp2_with (refine wpList_look _ rfl (.tmp 21) (.tmp 22) rfl und5 und72 kind_u8 zero78 _ _ rfl M 24 rfl (.agg #[.func (.func 45) #[] #[], .int .i64 0, .int .i64 0, .func (.func 41) #[] #[]]) true (by rw [HLh.out]; rfl) (by rw [HLh.out]; rfl) ?_)
      go_roundw
      case rel => exact ⟨25, by omega, by omega, by go_num, L, M.alloc _, fun op => (HLh.out op).trans (formK_same 24 op (.inl (by decide))), HBh.out.alloc HBh.out.size _⟩
      case measure => simp [intOf]
    · go_wp2_with (refine wpList_look _ rfl (.tmp 21) (.tmp 22) rfl und5 und72 kind_u8 zero78 _ _ rfl M 25 rfl (.agg #[.func (.func 42) #[] #[], .int .i64 0, .int .i64 2048, .func (.func 46) #[] #[]]) true (by rw [HLh.out]; rfl) (by rw [HLh.out]; rfl) ?_)
      go_roundw
      case rel => exact ⟨26, by omega, by omega, by go_num, L, M.alloc _, fun op => (HLh.out op).trans (formK_same 25 op (.inl (by decide))), HBh.out.alloc HBh.out.size _⟩
      case measure => simp [intOf]
    · go_wp2_with (first
        | (refine wpList_look _ rfl (.tmp 21) (.tmp 22) rfl und5 und72 kind_u8 zero78 _ _ rfl M 26 rfl (.agg #[.nilFunc, .int .i64 0, .int .i64 0, .nilFunc]) false (by rw [HLh.out]; rfl) (by rw [HLh.out]; rfl) ?_)
        | (refine wpList_put _ rfl _ _ _ rfl und5 und72 kind_u8 _ _ rfl (M.alloc _) 26 (.agg #[.func (.func 39) #[] #[], .int .i64 0, .int .i64 0, .func (.func 41) #[] #[]]) rfl rfl (by rw [HLh.out]; rfl) ?_; intro wx MX UX))
      go_roundw
      case rel => exact ⟨27, by omega, by omega, by go_num, _, MX, fun op => by rw [lk_snoc _ _ _ _ (by rw [HLh.out]; rfl), HLh.out]; exact formK_more 26 op _ rfl, UX.below (HBh.out.alloc HBh.out.size _) (Nat.le_refl _)⟩
      case measure => simp [intOf]
    · go_wp2_with (refine wpList_look _ rfl (.tmp 21) (.tmp 22) rfl und5 und72 kind_u8 zero78 _ _ rfl M 27 rfl (.agg #[.nilFunc, .int .i64 0, .int .i64 0, .nilFunc]) false (by rw [HLh.out]; rfl) (by rw [HLh.out]; rfl) ?_)
      go_roundw
      case rel => exact ⟨28, by omega, by omega, by go_num, L, M.alloc _, fun op => (HLh.out op).trans (formK_same 27 op (.inr rfl)), HBh.out.alloc HBh.out.size _⟩
      case measure => simp [intOf]
    · go_wp2_with (refine wpList_look _ rfl (.tmp 21) (.tmp 22) rfl und5 und72 kind_u8 zero78 _ _ rfl M 28 rfl (.agg #[.nilFunc, .int .i64 0, .int .i64 0, .nilFunc]) false (by rw [HLh.out]; rfl) (by rw [HLh.out]; rfl) ?_)
      go_roundw
      case rel => exact ⟨29, by omega, by omega, by go_num, L, M.alloc _, fun op => (HLh.out op).trans (formK_same 28 op (.inr rfl)), HBh.out.alloc HBh.out.size _⟩
      case measure => simp [intOf]
    · go_wp2_with (refine wpList_look _ rfl (.tmp 21) (.tmp 22) rfl und5 und72 kind_u8 zero78 _ _ rfl M 29 rfl (.agg #[.nilFunc, .int .i64 0, .int .i64 0, .nilFunc]) false (by rw [HLh.out]; rfl) (by rw [HLh.out]; rfl) ?_)
      go_roundw
      case rel => exact ⟨30, by omega, by omega, by go_num, L, M.alloc _, fun op => (HLh.out op).trans (formK_same 29 op (.inr rfl)), HBh.out.alloc HBh.out.size _⟩
      case measure => simp [intOf]
    · go_wp2_with (first
        | (refine wpList_look _ rfl (.tmp 21) (.tmp 22) rfl und5 und72 kind_u8 zero78 _ _ rfl M 30 rfl (.agg #[.nilFunc, .int .i64 0, .int .i64 0, .nilFunc]) false (by rw [HLh.out]; rfl) (by rw [HLh.out]; rfl) ?_)
        | (refine wpList_put _ rfl _ _ _ rfl und5 und72 kind_u8 _ _ rfl (M.alloc _) 30 (.agg #[.func (.func 42) #[] #[], .int .i64 2, .int .i64 2, .func (.func 46) #[] #[]]) rfl rfl (by rw [HLh.out]; rfl) ?_; intro wx MX UX))
      go_roundw
      case rel => exact ⟨31, by omega, by omega, by go_num, _, MX, fun op => by rw [lk_snoc _ _ _ _ (by rw [HLh.out]; rfl), HLh.out]; exact formK_more 30 op _ rfl, UX.below (HBh.out.alloc HBh.out.size _) (Nat.le_refl _)⟩
      case measure => simp [intOf]
    · go_wp2_with (first
        | (refine wpList_look _ rfl (.tmp 21) (.tmp 22) rfl und5 und72 kind_u8 zero78 _ _ rfl M 31 rfl (.agg #[.nilFunc, .int .i64 0, .int .i64 0, .nilFunc]) false (by rw [HLh.out]; rfl) (by rw [HLh.out]; rfl) ?_)
        | (refine wpList_put _ rfl _ _ _ rfl und5 und72 kind_u8 _ _ rfl (M.alloc _) 31 (.agg #[.func (.func 42) #[] #[], .int .i64 2, .int .i64 2, .func (.func 46) #[] #[]]) rfl rfl (by rw [HLh.out]; rfl) ?_; intro wx MX UX))
      go_roundw
      case rel => exact ⟨32, by omega, by omega, by go_num, _, MX, fun op => by rw [lk_snoc _ _ _ _ (by rw [HLh.out]; rfl), HLh.out]; exact formK_more 31 op _ rfl, UX.below (HBh.out.alloc HBh.out.size _) (Nat.le_refl _)⟩
      case measure => simp [intOf]
    · go_wp2_with (first
        | (refine wpList_look _ rfl (.tmp 21) (.tmp 22) rfl und5 und72 kind_u8 zero78 _ _ rfl M 32 rfl (.agg #[.nilFunc, .int .i64 0, .int .i64 0, .nilFunc]) false (by rw [HLh.out]; rfl) (by rw [HLh.out]; rfl) ?_)
        | (refine wpList_put _ rfl _ _ _ rfl und5 und72 kind_u8 _ _ rfl (M.alloc _) 32 (.agg #[.func (.func 42) #[] #[], .int .i64 2, .int .i64 2, .func (.func 46) #[] #[]]) rfl rfl (by rw [HLh.out]; rfl) ?_; intro wx MX UX))
      go_roundw
      case rel => exact ⟨33, by omega, by omega, by go_num, _, MX, fun op => by rw [lk_snoc _ _ _ _ (by rw [HLh.out]; rfl), HLh.out]; exact formK_more 32 op _ rfl, UX.below (HBh.out.alloc HBh.out.size _) (Nat.le_refl _)⟩
      case measure => simp [intOf]
    · go_wp2_with (first
        | (refine wpList_look _ rfl (.tmp 21) (.tmp 22) rfl und5 und72 kind_u8 zero78 _ _ rfl M 33 rfl (.agg #[.nilFunc, .int .i64 0, .int .i64 0, .nilFunc]) false (by rw [HLh.out]; rfl) (by rw [HLh.out]; rfl) ?_)
        | (refine wpList_put _ rfl _ _ _ rfl und5 und72 kind_u8 _ _ rfl (M.alloc _) 33 (.agg #[.func (.func 42) #[] #[], .int .i64 2, .int .i64 2, .func (.func 46) #[] #[]]) rfl rfl (by rw [HLh.out]; rfl) ?_; intro wx MX UX))
      go_roundw
      case rel => exact ⟨34, by omega, by omega, by go_num, _, MX, fun op => by rw [lk_snoc _ _ _ _ (by rw [HLh.out]; rfl), HLh.out]; exact formK_more 33 op _ rfl, UX.below (HBh.out.alloc HBh.out.size _) (Nat.le_refl _)⟩
      case measure => simp [intOf]
    · go_wp2_with (first
        | (refine wpList_look _ rfl (.tmp 21) (.tmp 22) rfl und5 und72 kind_u8 zero78 _ _ rfl M 34 rfl (.agg #[.nilFunc, .int .i64 0, .int .i64 0, .nilFunc]) false (by rw [HLh.out]; rfl) (by rw [HLh.out]; rfl) ?_)
        | (refine wpList_put _ rfl _ _ _ rfl und5 und72 kind_u8 _ _ rfl (M.alloc _) 34 (.agg #[.func (.func 42) #[] #[], .int .i64 2, .int .i64 2, .func (.func 46) #[] #[]]) rfl rfl (by rw [HLh.out]; rfl) ?_; intro wx MX UX))
      go_roundw
      case rel => exact ⟨35, by omega, by omega, by go_num, _, MX, fun op => by rw [lk_snoc _ _ _ _ (by rw [HLh.out]; rfl), HLh.out]; exact formK_more 34 op _ rfl, UX.below (HBh.out.alloc HBh.out.size _) (Nat.le_refl _)⟩
      case measure => simp [intOf]
    · go_wp2_with (first
        | (refine wpList_look _ rfl (.tmp 21) (.tmp 22) rfl und5 und72 kind_u8 zero78 _ _ rfl M 35 rfl (.agg #[.nilFunc, .int .i64 0, .int .i64 0, .nilFunc]) false (by rw [HLh.out]; rfl) (by rw [HLh.out]; rfl) ?_)
        | (refine wpList_put _ rfl _ _ _ rfl und5 und72 kind_u8 _ _ rfl (M.alloc _) 35 (.agg #[.func (.func 42) #[] #[], .int .i64 2, .int .i64 2, .func (.func 46) #[] #[]]) rfl rfl (by rw [HLh.out]; rfl) ?_; intro wx MX UX))
      go_roundw
      case rel => exact ⟨36, by omega, by omega, by go_num, _, MX, fun op => by rw [lk_snoc _ _ _ _ (by rw [HLh.out]; rfl), HLh.out]; exact formK_more 35 op _ rfl, UX.below (HBh.out.alloc HBh.out.size _) (Nat.le_refl _)⟩
      case measure => simp [intOf]
    · go_wp2_with (first
        | (refine wpList_look _ rfl (.tmp 21) (.tmp 22) rfl und5 und72 kind_u8 zero78 _ _ rfl M 36 rfl (.agg #[.nilFunc, .int .i64 0, .int .i64 0, .nilFunc]) false (by rw [HLh.out]; rfl) (by rw [HLh.out]; rfl) ?_)
        | (refine wpList_put _ rfl _ _ _ rfl und5 und72 kind_u8 _ _ rfl (M.alloc _) 36 (.agg #[.func (.func 42) #[] #[], .int .i64 2, .int .i64 2, .func (.func 46) #[] #[]]) rfl rfl (by rw [HLh.out]; rfl) ?_; intro wx MX UX))
      go_roundw
      case rel => exact ⟨37, by omega, by omega, by go_num, _, MX, fun op => by rw [lk_snoc _ _ _ _ (by rw [HLh.out]; rfl), HLh.out]; exact formK_more 36 op _ rfl, UX.below (HBh.out.alloc HBh.out.size _) (Nat.le_refl _)⟩
      case measure => simp [intOf]
    · go_wp2_with (first
        | (refine wpList_look _ rfl (.tmp 21) (.tmp 22) rfl und5 und72 kind_u8 zero78 _ _ rfl M 37 rfl (.agg #[.nilFunc, .int .i64 0, .int .i64 0, .nilFunc]) false (by rw [HLh.out]; rfl) (by rw [HLh.out]; rfl) ?_)
        | (refine wpList_put _ rfl _ _ _ rfl und5 und72 kind_u8 _ _ rfl (M.alloc _) 37 (.agg #[.func (.func 42) #[] #[], .int .i64 2, .int .i64 2, .func (.func 46) #[] #[]]) rfl rfl (by rw [HLh.out]; rfl) ?_; intro wx MX UX))
      go_roundw
      case rel => exact ⟨38, by omega, by omega, by go_num, _, MX, fun op => by rw [lk_snoc _ _ _ _ (by rw [HLh.out]; rfl), HLh.out]; exact formK_more 37 op _ rfl, UX.below (HBh.out.alloc HBh.out.size _) (Nat.le_refl _)⟩
      case measure => simp [intOf]
    · go_wp2_with (first
        | (refine wpList_look _ rfl (.tmp 21) (.tmp 22) rfl und5 und72 kind_u8 zero78 _ _ rfl M 38 rfl (.agg #[.nilFunc, .int .i64 0, .int .i64 0, .nilFunc]) false (by rw [HLh.out]; rfl) (by rw [HLh.out]; rfl) ?_)
        | (refine wpList_put _ rfl _ _ _ rfl und5 und72 kind_u8 _ _ rfl (M.alloc _) 38 (.agg #[.func (.func 42) #[] #[], .int .i64 2, .int .i64 2, .func (.func 46) #[] #[]]) rfl rfl (by rw [HLh.out]; rfl) ?_; intro wx MX UX))
      go_roundw
      case rel => exact ⟨39, by omega, by omega, by go_num, _, MX, fun op => by rw [lk_snoc _ _ _ _ (by rw [HLh.out]; rfl), HLh.out]; exact formK_more 38 op _ rfl, UX.below (HBh.out.alloc HBh.out.size _) (Nat.le_refl _)⟩
      case measure => simp [intOf]
    · go_wp2_with (first
        | (refine wpList_look _ rfl (.tmp 21) (.tmp 22) rfl und5 und72 kind_u8 zero78 _ _ rfl M 39 rfl (.agg #[.nilFunc, .int .i64 0, .int .i64 0, .nilFunc]) false (by rw [HLh.out]; rfl) (by rw [HLh.out]; rfl) ?_)
        | (refine wpList_put _ rfl _ _ _ rfl und5 und72 kind_u8 _ _ rfl (M.alloc _) 39 (.agg #[.func (.func 42) #[] #[], .int .i64 2, .int .i64 2, .func (.func 46) #[] #[]]) rfl rfl (by rw [HLh.out]; rfl) ?_; intro wx MX UX))
      go_roundw
      case rel => exact ⟨40, by omega, by omega, by go_num, _, MX, fun op => by rw [lk_snoc _ _ _ _ (by rw [HLh.out]; rfl), HLh.out]; exact formK_more 39 op _ rfl, UX.below (HBh.out.alloc HBh.out.size _) (Nat.le_refl _)⟩
      case measure => simp [intOf]
    · go_wp2_with (first
        | (refine wpList_look _ rfl (.tmp 21) (.tmp 22) rfl und5 und72 kind_u8 zero78 _ _ rfl M 40 rfl (.agg #[.nilFunc, .int .i64 0, .int .i64 0, .nilFunc]) false (by rw [HLh.out]; rfl) (by rw [HLh.out]; rfl) ?_)
        | (refine wpList_put _ rfl _ _ _ rfl und5 und72 kind_u8 _ _ rfl (M.alloc _) 40 (.agg #[.func (.func 42) #[] #[], .int .i64 2, .int .i64 2, .func (.func 46) #[] #[]]) rfl rfl (by rw [HLh.out]; rfl) ?_; intro wx MX UX))
      go_roundw
      case rel => exact ⟨41, by omega, by omega, by go_num, _, MX, fun op => by rw [lk_snoc _ _ _ _ (by rw [HLh.out]; rfl), HLh.out]; exact formK_more 40 op _ rfl, UX.below (HBh.out.alloc HBh.out.size _) (Nat.le_refl _)⟩
      case measure => simp [intOf]
    · go_wp2_with (first
        | (refine wpList_look _ rfl (.tmp 21) (.tmp 22) rfl und5 und72 kind_u8 zero78 _ _ rfl M 41 rfl (.agg #[.nilFunc, .int .i64 0, .int .i64 0, .nilFunc]) false (by rw [HLh.out]; rfl) (by rw [HLh.out]; rfl) ?_)
        | (refine wpList_put _ rfl _ _ _ rfl und5 und72 kind_u8 _ _ rfl (M.alloc _) 41 (.agg #[.func (.func 42) #[] #[], .int .i64 2, .int .i64 2, .func (.func 46) #[] #[]]) rfl rfl (by rw [HLh.out]; rfl) ?_; intro wx MX UX))
      go_roundw
      case rel => exact ⟨42, by omega, by omega, by go_num, _, MX, fun op => by rw [lk_snoc _ _ _ _ (by rw [HLh.out]; rfl), HLh.out]; exact formK_more 41 op _ rfl, UX.below (HBh.out.alloc HBh.out.size _) (Nat.le_refl _)⟩
      case measure => simp [intOf]
    · go_wp2_with (first
        | (refine wpList_look _ rfl (.tmp 21) (.tmp 22) rfl und5 und72 kind_u8 zero78 _ _ rfl M 42 rfl (.agg #[.nilFunc, .int .i64 0, .int .i64 0, .nilFunc]) false (by rw [HLh.out]; rfl) (by rw [HLh.out]; rfl) ?_)
        | (refine wpList_put _ rfl _ _ _ rfl und5 und72 kind_u8 _ _ rfl (M.alloc _) 42 (.agg #[.func (.func 42) #[] #[], .int .i64 2, .int .i64 2, .func (.func 46) #[] #[]]) rfl rfl (by rw [HLh.out]; rfl) ?_; intro wx MX UX))
      go_roundw
      case rel => exact ⟨43, by omega, by omega, by go_num, _, MX, fun op => by rw [lk_snoc _ _ _ _ (by rw [HLh.out]; rfl), HLh.out]; exact formK_more 42 op _ rfl, UX.below (HBh.out.alloc HBh.out.size _) (Nat.le_refl _)⟩
      case measure => simp [intOf]
    · go_wp2_with (first
        | (refine wpList_look _ rfl (.tmp 21) (.tmp 22) rfl und5 und72 kind_u8 zero78 _ _ rfl M 43 rfl (.agg #[.nilFunc, .int .i64 0, .int .i64 0, .nilFunc]) false (by rw [HLh.out]; rfl) (by rw [HLh.out]; rfl) ?_)
        | (refine wpList_put _ rfl _ _ _ rfl und5 und72 kind_u8 _ _ rfl (M.alloc _) 43 (.agg #[.func (.func 42) #[] #[], .int .i64 1, .int .i64 1, .func (.func 46) #[] #[]]) rfl rfl (by rw [HLh.out]; rfl) ?_; intro wx MX UX))
      go_roundw
      case rel => exact ⟨44, by omega, by omega, by go_num, _, MX, fun op => by rw [lk_snoc _ _ _ _ (by rw [HLh.out]; rfl), HLh.out]; exact formK_more 43 op _ rfl, UX.below (HBh.out.alloc HBh.out.size _) (Nat.le_refl _)⟩
      case measure => simp [intOf]
    · go_wp2_with (first
        | (refine wpList_look _ rfl (.tmp 21) (.tmp 22) rfl und5 und72 kind_u8 zero78 _ _ rfl M 44 rfl (.agg #[.nilFunc, .int .i64 0, .int .i64 0, .nilFunc]) false (by rw [HLh.out]; rfl) (by rw [HLh.out]; rfl) ?_)
        | (refine wpList_put _ rfl _ _ _ rfl und5 und72 kind_u8 _ _ rfl (M.alloc _) 44 (.agg #[.func (.func 42) #[] #[], .int .i64 1, .int .i64 1, .func (.func 46) #[] #[]]) rfl rfl (by rw [HLh.out]; rfl) ?_; intro wx MX UX))
      go_roundw
      case rel => exact ⟨45, by omega, by omega, by go_num, _, MX, fun op => by rw [lk_snoc _ _ _ _ (by rw [HLh.out]; rfl), HLh.out]; exact formK_more 44 op _ rfl, UX.below (HBh.out.alloc HBh.out.size _) (Nat.le_refl _)⟩
      case measure => simp [intOf]
    · go_wp2_with (first
        | (refine wpList_look _ rfl (.tmp 21) (.tmp 22) rfl und5 und72 kind_u8 zero78 _ _ rfl M 45 rfl (.agg #[.nilFunc, .int .i64 0, .int .i64 0, .nilFunc]) false (by rw [HLh.out]; rfl) (by rw [HLh.out]; rfl) ?_)
        | (refine wpList_put _ rfl _ _ _ rfl und5 und72 kind_u8 _ _ rfl (M.alloc _) 45 (.agg #[.func (.func 42) #[] #[], .int .i64 1, .int .i64 1, .func (.func 46) #[] #[]]) rfl rfl (by rw [HLh.out]; rfl) ?_; intro wx MX UX))
      go_roundw
      case rel => exact ⟨46, by omega, by omega, by go_num, _, MX, fun op => by rw [lk_snoc _ _ _ _ (by rw [HLh.out]; rfl), HLh.out]; exact formK_more 45 op _ rfl, UX.below (HBh.out.alloc HBh.out.size _) (Nat.le_refl _)⟩
      case measure => simp [intOf]
    · go_wp2_with (first
        | (refine wpList_look _ rfl (.tmp 21) (.tmp 22) rfl und5 und72 kind_u8 zero78 _ _ rfl M 46 rfl (.agg #[.nilFunc, .int .i64 0, .int .i64 0, .nilFunc]) false (by rw [HLh.out]; rfl) (by rw [HLh.out]; rfl) ?_)
        | (refine wpList_put _ rfl _ _ _ rfl und5 und72 kind_u8 _ _ rfl (M.alloc _) 46 (.agg #[.func (.func 42) #[] #[], .int .i64 1, .int .i64 1, .func (.func 46) #[] #[]]) rfl rfl (by rw [HLh.out]; rfl) ?_; intro wx MX UX))
      go_roundw
      case rel => exact ⟨47, by omega, by omega, by go_num, _, MX, fun op => by rw [lk_snoc _ _ _ _ (by rw [HLh.out]; rfl), HLh.out]; exact formK_more 46 op _ rfl, UX.below (HBh.out.alloc HBh.out.size _) (Nat.le_refl _)⟩
      case measure => simp [intOf]
    · go_wp2_with (first
        | (refine wpList_look _ rfl (.tmp 21) (.tmp 22) rfl und5 und72 kind_u8 zero78 _ _ rfl M 47 rfl (.agg #[.nilFunc, .int .i64 0, .int .i64 0, .nilFunc]) false (by rw [HLh.out]; rfl) (by rw [HLh.out]; rfl) ?_)
        | (refine wpList_put _ rfl _ _ _ rfl und5 und72 kind_u8 _ _ rfl (M.alloc _) 47 (.agg #[.func (.func 42) #[] #[], .int .i64 1, .int .i64 1, .func (.func 46) #[] #[]]) rfl rfl (by rw [HLh.out]; rfl) ?_; intro wx MX UX))
      go_roundw
      case rel => exact ⟨48, by omega, by omega, by go_num, _, MX, fun op => by rw [lk_snoc _ _ _ _ (by rw [HLh.out]; rfl), HLh.out]; exact formK_more 47 op _ rfl, UX.below (HBh.out.alloc HBh.out.size _) (Nat.le_refl _)⟩
      case measure => simp [intOf]
    · go_wp2_with (first
        | (refine wpList_look _ rfl (.tmp 21) (.tmp 22) rfl und5 und72 kind_u8 zero78 _ _ rfl M 48 rfl (.agg #[.nilFunc, .int .i64 0, .int .i64 0, .nilFunc]) false (by rw [HLh.out]; rfl) (by rw [HLh.out]; rfl) ?_)
        | (refine wpList_put _ rfl _ _ _ rfl und5 und72 kind_u8 _ _ rfl (M.alloc _) 48 (.agg #[.func (.func 42) #[] #[], .int .i64 1, .int .i64 1, .func (.func 46) #[] #[]]) rfl rfl (by rw [HLh.out]; rfl) ?_; intro wx MX UX))
      go_roundw
      case rel => exact ⟨49, by omega, by omega, by go_num, _, MX, fun op => by rw [lk_snoc _ _ _ _ (by rw [HLh.out]; rfl), HLh.out]; exact formK_more 48 op _ rfl, UX.below (HBh.out.alloc HBh.out.size _) (Nat.le_refl _)⟩
      case measure => simp [intOf]
    · go_wp2_with (refine wpList_look _ rfl (.tmp 21) (.tmp 22) rfl und5 und72 kind_u8 zero78 _ _ rfl M 49 rfl (.agg #[.nilFunc, .int .i64 0, .int .i64 0, .nilFunc]) false (by rw [HLh.out]; rfl) (by rw [HLh.out]; rfl) ?_)
      go_roundw
      case rel => exact ⟨50, by omega, by omega, by go_num, L, M.alloc _, fun op => (HLh.out op).trans (formK_same 49 op (.inr rfl)), HBh.out.alloc HBh.out.size _⟩
      case measure => simp [intOf]
    · go_wp2_with (first
        | (refine wpList_look _ rfl (.tmp 21) (.tmp 22) rfl und5 und72 kind_u8 zero78 _ _ rfl M 50 rfl (.agg #[.nilFunc, .int .i64 0, .int .i64 0, .nilFunc]) false (by rw [HLh.out]; rfl) (by rw [HLh.out]; rfl) ?_)
        | (refine wpList_put _ rfl _ _ _ rfl und5 und72 kind_u8 _ _ rfl (M.alloc _) 50 (.agg #[.func (.func 39) #[] #[], .int .i64 0, .int .i64 2048, .func (.func 46) #[] #[]]) rfl rfl (by rw [HLh.out]; rfl) ?_; intro wx MX UX))
      go_roundw
      case rel => exact ⟨51, by omega, by omega, by go_num, _, MX, fun op => by rw [lk_snoc _ _ _ _ (by rw [HLh.out]; rfl), HLh.out]; exact formK_more 50 op _ rfl, UX.below (HBh.out.alloc HBh.out.size _) (Nat.le_refl _)⟩
      case measure => simp [intOf]
    · go_wp2_with (first
        | (refine wpList_look _ rfl (.tmp 21) (.tmp 22) rfl und5 und72 kind_u8 zero78 _ _ rfl M 51 rfl (.agg #[.nilFunc, .int .i64 0, .int .i64 0, .nilFunc]) false (by rw [HLh.out]; rfl) (by rw [HLh.out]; rfl) ?_)
        | (refine wpList_put _ rfl _ _ _ rfl und5 und72 kind_u8 _ _ rfl (M.alloc _) 51 (.agg #[.func (.func 39) #[] #[], .int .i64 0, .int .i64 2048, .func (.func 46) #[] #[]]) rfl rfl (by rw [HLh.out]; rfl) ?_; intro wx MX UX))
      go_roundw
      case rel => exact ⟨52, by omega, by omega, by go_num, _, MX, fun op => by rw [lk_snoc _ _ _ _ (by rw [HLh.out]; rfl), HLh.out]; exact formK_more 51 op _ rfl, UX.below (HBh.out.alloc HBh.out.size _) (Nat.le_refl _)⟩
      case measure => simp [intOf]
    · go_wp2_with (first
        | (refine wpList_look _ rfl (.tmp 21) (.tmp 22) rfl und5 und72 kind_u8 zero78 _ _ rfl M 52 rfl (.agg #[.nilFunc, .int .i64 0, .int .i64 0, .nilFunc]) false (by rw [HLh.out]; rfl) (by rw [HLh.out]; rfl) ?_)
        | (refine wpList_put _ rfl _ _ _ rfl und5 und72 kind_u8 _ _ rfl (M.alloc _) 52 (.agg #[.func (.func 42) #[] #[], .int .i64 1, .int .i64 1, .func (.func 46) #[] #[]]) rfl rfl (by rw [HLh.out]; rfl) ?_; intro wx MX UX))
      go_roundw
      case rel => exact ⟨53, by omega, by omega, by go_num, _, MX, fun op => by rw [lk_snoc _ _ _ _ (by rw [HLh.out]; rfl), HLh.out]; exact formK_more 52 op _ rfl, UX.below (HBh.out.alloc HBh.out.size _) (Nat.le_refl _)⟩
      case measure => simp [intOf]
    · go_wp2_with (refine wpList_look _ rfl (.tmp 21) (.tmp 22) rfl und5 und72 kind_u8 zero78 _ _ rfl M 53 rfl (.agg #[.func (.func 42) #[] #[], .int .i64 1, .int .i64 1, .func (.func 47) #[] #[]]) true (by rw [HLh.out]; rfl) (by rw [HLh.out]; rfl) ?_)
      go_roundw
      case rel => exact ⟨54, by omega, by omega, by go_num, L, M.alloc _, fun op => (HLh.out op).trans (formK_same 53 op (.inl (by decide))), HBh.out.alloc HBh.out.size _⟩
      case measure => simp [intOf]
    · go_wp2_with (first
        | (refine wpList_look _ rfl (.tmp 21) (.tmp 22) rfl und5 und72 kind_u8 zero78 _ _ rfl M 54 rfl (.agg #[.nilFunc, .int .i64 0, .int .i64 0, .nilFunc]) false (by rw [HLh.out]; rfl) (by rw [HLh.out]; rfl) ?_)
        | (refine wpList_put _ rfl _ _ _ rfl und5 und72 kind_u8 _ _ rfl (M.alloc _) 54 (.agg #[.func (.func 42) #[] #[], .int .i64 1, .int .i64 1, .func (.func 46) #[] #[]]) rfl rfl (by rw [HLh.out]; rfl) ?_; intro wx MX UX))
      go_roundw
      case rel => exact ⟨55, by omega, by omega, by go_num, _, MX, fun op => by rw [lk_snoc _ _ _ _ (by rw [HLh.out]; rfl), HLh.out]; exact formK_more 54 op _ rfl, UX.below (HBh.out.alloc HBh.out.size _) (Nat.le_refl _)⟩
      case measure => simp [intOf]
    · go_wp2_with (first
        | (refine wpList_look _ rfl (.tmp 21) (.tmp 22) rfl und5 und72 kind_u8 zero78 _ _ rfl M 55 rfl (.agg #[.nilFunc, .int .i64 0, .int .i64 0, .nilFunc]) false (by rw [HLh.out]; rfl) (by rw [HLh.out]; rfl) ?_)
        | (refine wpList_put _ rfl _ _ _ rfl und5 und72 kind_u8 _ _ rfl (M.alloc _) 55 (.agg #[.func (.func 42) #[] #[], .int .i64 1, .int .i64 1, .func (.func 46) #[] #[]]) rfl rfl (by rw [HLh.out]; rfl) ?_; intro wx MX UX))
      go_roundw
      case rel => exact ⟨56, by omega, by omega, by go_num, _, MX, fun op => by rw [lk_snoc _ _ _ _ (by rw [HLh.out]; rfl), HLh.out]; exact formK_more 55 op _ rfl, UX.below (HBh.out.alloc HBh.out.size _) (Nat.le_refl _)⟩
      case measure => simp [intOf]
    · go_wp2_with (first
        | (refine wpList_look _ rfl (.tmp 21) (.tmp 22) rfl und5 und72 kind_u8 zero78 _ _ rfl M 56 rfl (.agg #[.nilFunc, .int .i64 0, .int .i64 0, .nilFunc]) false (by rw [HLh.out]; rfl) (by rw [HLh.out]; rfl) ?_)
        | (refine wpList_put _ rfl _ _ _ rfl und5 und72 kind_u8 _ _ rfl (M.alloc _) 56 (.agg #[.func (.func 39) #[] #[], .int .i64 0, .int .i64 0, .func (.func 41) #[] #[]]) rfl rfl (by rw [HLh.out]; rfl) ?_; intro wx MX UX))
      go_roundw
      case rel => exact ⟨57, by omega, by omega, by go_num, _, MX, fun op => by rw [lk_snoc _ _ _ _ (by rw [HLh.out]; rfl), HLh.out]; exact formK_more 56 op _ rfl, UX.below (HBh.out.alloc HBh.out.size _) (Nat.le_refl _)⟩
      case measure => simp [intOf]
    · go_wp2_with (first
        | (refine wpList_look _ rfl (.tmp 21) (.tmp 22) rfl und5 und72 kind_u8 zero78 _ _ rfl M 57 rfl (.agg #[.nilFunc, .int .i64 0, .int .i64 0, .nilFunc]) false (by rw [HLh.out]; rfl) (by rw [HLh.out]; rfl) ?_)
        | (refine wpList_put _ rfl _ _ _ rfl und5 und72 kind_u8 _ _ rfl (M.alloc _) 57 (.agg #[.func (.func 42) #[] #[], .int .i64 0, .int .i64 0, .func (.func 41) #[] #[]]) rfl rfl (by rw [HLh.out]; rfl) ?_; intro wx MX UX))
      go_roundw
      case rel => exact ⟨58, by omega, by omega, by go_num, _, MX, fun op => by rw [lk_snoc _ _ _ _ (by rw [HLh.out]; rfl), HLh.out]; exact formK_more 57 op _ rfl, UX.below (HBh.out.alloc HBh.out.size _) (Nat.le_refl _)⟩
      case measure => simp [intOf]
    · go_wp2_with fail
      go_ret
      exact ⟨rfl, ⟨L, M, fun op => (HLh.out op).trans (formK_end op)⟩, HBh.out⟩
end Go.Proofs.Ytkpgnopimnamfaa
