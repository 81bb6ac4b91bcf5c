/- kindOf of every instruction; instr.walk and meet. -/
import Derived.Test.YtkpgnopimnamfaaKA
import Derived.Test.YtkpgnopimnamfaaKB
import Derived.Test.YtkpgnopimnamfaaHC
import Derived.Test.YtkpgnopimnamfaaL0
namespace Go.Proofs.Ytkpgnopimnamfaa
open Go.ChangeShapes Go.WideShapes Go.ChangeAt Go.RowKit
def aOf (op : Int) : Int := if op = 1 ∨ op = 2 ∨ op = 3 ∨ op = 4 ∨ op = 53 then 116 else if op = 26 ∨ op = 27 then 115 else if op = 25 ∨ op = 50 ∨ op = 51 then 99 else 0
def numOf (op : Int) : Bool := decide (op = 23)
def textOf (op : Int) : Int := if op = 24 then 120 else if op = 50 ∨ op = 51 ∨ op = 56 then 110 else 0
def takesOf (op : Int) : Int := if op = 2 ∨ op = 3 ∨ op = 4 ∨ op = 8 ∨ op = 9 ∨ op = 27 ∨ op = 5 ∨ op = 6 ∨ op = 10 ∨ op = 52 ∨ op = 54 ∨ op = 55 ∨ 43 ≤ op ∧ op ≤ 48 then 1 else if 32 ≤ op ∧ op ≤ 42 then 2 else 0
def leaveOf (op : Int) : Int := if op = 1 ∨ op = 2 ∨ op = 3 ∨ op = 4 ∨ op = 8 ∨ op = 9 ∨ op = 28 ∨ op = 27 ∨ op = 6 ∨ op = 10 then 0 else 1
def manyOf (op : Int) : Bool := decide (op = 25 ∨ op = 50 ∨ op = 51)
def endsOf (op : Int) : Bool := decide (op = 8 ∨ op = 9 ∨ op = 28)
def validOp (op : Int) : Prop := 1 ≤ op ∧ op ≤ 6 ∨ 8 ≤ op ∧ op ≤ 10 ∨ 20 ≤ op ∧ op ≤ 28 ∨ 32 ≤ op ∧ op ≤ 48 ∨ 50 ≤ op ∧ op ≤ 57
def kindV (word : ByteArray) (op : Int) : Value := .agg #[.string word, .int .u8 (aOf op), .bool (numOf op), .int .u8 (textOf op), .int .i64 (takesOf op), .int .i64 (leaveOf op), .bool (manyOf op), .bool (endsOf op)]
theorem kind_any (op : Int) (h : validOp op) : ∃ word : ByteArray, word.toList.isEmpty = false ∧ ∀ w, Calls Try.prog 15 #[.int .u8 op] w fun e w' => e = .returned (kindV word op) ∧ Below w.heap.size w w' := by
  unfold validOp at h
  have hc : op = 1 ∨ op = 2 ∨ op = 3 ∨ op = 4 ∨ op = 5 ∨ op = 6 ∨ op = 8 ∨ op = 9 ∨ op = 10 ∨ op = 20 ∨ op = 21 ∨ op = 22 ∨ op = 23 ∨ op = 24 ∨ op = 25 ∨ op = 26 ∨ op = 27 ∨ op = 28 ∨ op = 32 ∨ op = 33 ∨ op = 34 ∨ op = 35 ∨ op = 36 ∨ op = 37 ∨ op = 38 ∨ op = 39 ∨ op = 40 ∨ op = 41 ∨ op = 42 ∨ op = 43 ∨ op = 44 ∨ op = 45 ∨ op = 46 ∨ op = 47 ∨ op = 48 ∨ op = 50 ∨ op = 51 ∨ op = 52 ∨ op = 53 ∨ op = 54 ∨ op = 55 ∨ op = 56 ∨ op = 57 := by omega
  rcases hc with rfl | rfl | rfl | rfl | rfl | rfl | rfl | rfl | rfl | rfl | rfl | rfl | rfl | rfl | rfl | rfl | rfl | rfl | rfl | rfl | rfl | rfl | rfl | rfl | rfl | rfl | rfl | rfl | rfl | rfl | rfl | rfl | rfl | rfl | rfl | rfl | rfl | rfl | rfl | rfl | rfl | rfl | rfl
  · exact ⟨⟨#[106, 117, 109, 112]⟩, by decide +kernel, kind_1⟩
  · exact ⟨⟨#[98, 114, 97, 110, 99, 104]⟩, by decide +kernel, kind_2⟩
  · exact ⟨⟨#[111, 114]⟩, by decide +kernel, kind_3⟩
  · exact ⟨⟨#[97, 110, 100]⟩, by decide +kernel, kind_4⟩
  · exact ⟨⟨#[98, 111, 111, 108]⟩, by decide +kernel, kind_5⟩
  · exact ⟨⟨#[100, 114, 111, 112]⟩, by decide +kernel, kind_6⟩
  · exact ⟨⟨#[114, 101, 116, 117, 114, 110]⟩, by decide +kernel, kind_8⟩
  · exact ⟨⟨#[102, 97, 105, 108]⟩, by decide +kernel, kind_9⟩
  · exact ⟨⟨#[115, 108, 101, 101, 112]⟩, by decide +kernel, kind_10⟩
  · exact ⟨⟨#[110, 111, 110, 101]⟩, by decide +kernel, kind_20⟩
  · exact ⟨⟨#[116, 114, 117, 101]⟩, by decide +kernel, kind_21⟩
  · exact ⟨⟨#[102, 97, 108, 115, 101]⟩, by decide +kernel, kind_22⟩
  · exact ⟨⟨#[105, 110, 116]⟩, by decide +kernel, kind_23⟩
  · exact ⟨⟨#[116, 101, 120, 116]⟩, by decide +kernel, kind_24⟩
  · exact ⟨⟨#[108, 105, 115, 116]⟩, by decide +kernel, kind_25⟩
  · exact ⟨⟨#[108, 111, 97, 100]⟩, by decide +kernel, kind_26⟩
  · exact ⟨⟨#[115, 116, 111, 114, 101]⟩, by decide +kernel, kind_27⟩
  · exact ⟨⟨#[101, 110, 100]⟩, by decide +kernel, kind_28⟩
  · exact ⟨⟨#[101, 113]⟩, by decide +kernel, kind_32⟩
  · exact ⟨⟨#[110, 101]⟩, by decide +kernel, kind_33⟩
  · exact ⟨⟨#[108, 116]⟩, by decide +kernel, kind_34⟩
  · exact ⟨⟨#[108, 101]⟩, by decide +kernel, kind_35⟩
  · exact ⟨⟨#[97, 100, 100]⟩, by decide +kernel, kind_36⟩
  · exact ⟨⟨#[115, 117, 98]⟩, by decide +kernel, kind_37⟩
  · exact ⟨⟨#[109, 117, 108]⟩, by decide +kernel, kind_38⟩
  · exact ⟨⟨#[100, 105, 118]⟩, by decide +kernel, kind_39⟩
  · exact ⟨⟨#[109, 111, 100]⟩, by decide +kernel, kind_40⟩
  · exact ⟨⟨#[110, 117, 109]⟩, by decide +kernel, kind_41⟩
  · exact ⟨⟨#[97, 116]⟩, by decide +kernel, kind_42⟩
  · exact ⟨⟨#[110, 111, 116]⟩, by decide +kernel, kind_43⟩
  · exact ⟨⟨#[110, 101, 103]⟩, by decide +kernel, kind_44⟩
  · exact ⟨⟨#[108, 101, 110]⟩, by decide +kernel, kind_45⟩
  · exact ⟨⟨#[114, 101]⟩, by decide +kernel, kind_46⟩
  · exact ⟨⟨#[105, 109]⟩, by decide +kernel, kind_47⟩
  · exact ⟨⟨#[99, 111, 110, 106]⟩, by decide +kernel, kind_48⟩
  · exact ⟨⟨#[99, 97, 108, 108]⟩, by decide +kernel, kind_50⟩
  · exact ⟨⟨#[99, 104, 105, 108, 100]⟩, by decide +kernel, kind_51⟩
  · exact ⟨⟨#[116, 105, 109, 101, 114]⟩, by decide +kernel, kind_52⟩
  · exact ⟨⟨#[102, 111, 114, 107]⟩, by decide +kernel, kind_53⟩
  · exact ⟨⟨#[97, 119, 97, 105, 116]⟩, by decide +kernel, kind_54⟩
  · exact ⟨⟨#[115, 101, 116, 116, 108, 101]⟩, by decide +kernel, kind_55⟩
  · exact ⟨⟨#[116, 97, 107, 101]⟩, by decide +kernel, kind_56⟩
  · exact ⟨⟨#[118, 101, 114, 115, 105, 111, 110]⟩, by decide +kernel, kind_57⟩
end Go.Proofs.Ytkpgnopimnamfaa
namespace Go.Proofs.Ytkpgnopimnamfaa
open Go.ChangeShapes Go.WideShapes Go.ChangeAt Go.RowKit
/-- A walk over code in the world: the depths met, the things still to come. -/
def WkAt (w : World) (B hw hp : Nat) (ca : Option Addr) (cc n : Nat) (H : Nat) (D : List Int) (X : List Th) (next : Int) : Prop :=
  ∃ (da : Nat) (dc : Nat) (ao : Option Addr) (cap : Nat) (L : List (Int × Value)),
    w.heap[hw]? = some (.cells #[.slice ca n cc, .slice (some ⟨da, 0, none⟩) D.length dc, .pointer (some ⟨hp, 0, none⟩)] 57 (0, 0)) ∧
    w.ownsRow B 3 1 (.slice (some ⟨da, 0, none⟩) D.length dc) D.length (D.map (Value.int .i64)) ∧ HpO w B hp ao cap H X next L
/-- Of what was there, but the walk's own variables all is as it was. -/
def FrW (B hp : Nat) (w w' : World) : Prop := Below B w w' ∧ ∀ (k : Nat) (c : Array Value) (t : TypeId) (fz : Nat × Nat), w.heap[k]? = some (.cells c t fz) → k ≠ hp → t ≠ 91 → t ≠ 3 → w'.heap[k]? = some (.cells c t fz)
section
variable {B hp : Nat} {w w' w'' : World}
theorem FrW.refl (B hp : Nat) (w : World) : FrW B hp w w := ⟨Below.refl _ _, fun _ _ _ _ h _ _ _ => h⟩
theorem FrW.trans (h : FrW B hp w w') (k : FrW B hp w' w'') : FrW B hp w w'' := ⟨h.1.trans k.1, fun i c t fz hi h1 h2 h3 => k.2 i c t fz (h.2 i c t fz hi h1 h2 h3) h1 h2 h3⟩
theorem FrW.size (h : FrW B hp w w') : w.heap.size ≤ w'.heap.size := h.1.size
theorem FrW.of_below (h : Below w.heap.size w w') (hB : B ≤ w.heap.size) : FrW B hp w w' := ⟨h.mono hB, fun k _ _ _ hk _ _ _ => (h.block k (Array.getElem?_eq_some_iff.1 hk).1).trans hk⟩
theorem FrW.of_frt (h : FrT B hp w w') : FrW B hp w w' := ⟨h.1, fun k c t fz hk h1 h2 _ => h.2 k c t fz hk h1 h2⟩
theorem FrW.setD {da : Nat} {c : Array Value} {fz : Nat × Nat} (h : FrW B hp w w') (hd : w'.heap[da]? = some (.cells c 3 fz)) (hB : B ≤ da) (o : Nat) (v : Value) : FrW B hp w (w'.setCell ⟨da, o, none⟩ v) :=
  h.trans ⟨(Below.refl B w').setCell hB v, fun _ _ _ _ hk _ _ h3 => (Below.heap_setCell _ _ _ _ (fun e => by
    have e' := e
    subst e'
    rw [hd] at hk; cases hk; exact h3 rfl)).trans hk⟩
end
theorem own_setD {w : World} {B da dc : Nat} {D : List Int} (h : w.ownsRow B 3 1 (.slice (some ⟨da, 0, none⟩) D.length dc) D.length (D.map (Value.int .i64))) (i : Nat) (v : Int) :
    (w.setCell ⟨da, i, none⟩ (.int .i64 v)).ownsRow B 3 1 (.slice (some ⟨da, 0, none⟩) (D.set i v).length dc) (D.set i v).length ((D.set i v).map (Value.int .i64)) := by
  rcases h.2 with ⟨e, _⟩ | ⟨g', cap', cur, e, hb, hg, hc, hm, hs, ht⟩
  · cases e
  · cases e
    refine ⟨by simp, .inr ⟨da, dc, cur.setIfInBounds i (.int .i64 v), rfl, hb, setc_at hg _, by rw [List.length_set]; exact hc, hm, by simpa using hs, ?_⟩⟩
    rw [List.length_set, Array.toList_setIfInBounds, List.take_set, ht, List.map_set]
theorem row_cell {w : World} {B da dc : Nat} {D : List Int} (h : w.ownsRow B 3 1 (.slice (some ⟨da, 0, none⟩) D.length dc) D.length (D.map (Value.int .i64))) {i : Nat} {v : Int} (hi : D[i]? = some v) : w.cell? ⟨da, i, none⟩ = some (.int .i64 v) := by
  have := h.cells rfl i (.int .i64 v) (by simp [hi])
  rwa [add_zero_at] at this
theorem own_not91 {w : World} {B da n : Nat} {v : Value} {xs : List Value} {c : Array Value} {t : TypeId} {fz : Nat × Nat} (h : w.ownsRow B 91 3 v n xs) (hd : w.heap[da]? = some (.cells c t fz)) (ht : t ≠ 91) (o : Nat) (u : Value) : (w.setCell ⟨da, o, none⟩ u).ownsRow B 91 3 v n xs := own_seth h hd ht o u
theorem own_frt {w w' : World} {B hp da n dc : Nat} {xs : List Value} (h : w.ownsRow B 3 1 (.slice (some ⟨da, 0, none⟩) n dc) n xs) (hf : FrT B hp w w') (hne : hp ≠ da) : w'.ownsRow B 3 1 (.slice (some ⟨da, 0, none⟩) n dc) n xs := by
  refine ⟨h.1, ?_⟩
  rcases h.2 with hn | ⟨g', cap, cur, e, hb, hgg, r⟩
  · exact .inl hn
  · cases e
    exact .inr ⟨da, dc, cur, rfl, hb, hf.2 _ _ _ _ hgg (Ne.symm hne) (by decide), r⟩
def MeetPost (w : World) (B hw hp : Nat) (ca : Option Addr) (cc n H : Nat) (D : List Int) (X : List Th) (next : Int) (at_ : Nat) (d : Int) (e : Ending) (w' : World) : Prop :=
  e = .returned (.bool true) ∧ FrW B hp w w' ∧
    ((D[at_]? = some d ∧ WkAt w' B hw hp ca cc n H D X next) ∨ (∃ v X', D[at_]? = some v ∧ v < 0 ∧ List.Perm X' (X ++ [((at_ : Int), next, d)]) ∧ WkAt w' B hw hp ca cc n H (D.set at_ d) X' (next + 1)))
set_option maxRecDepth 100000 in
set_option maxHeartbeats 2000000 in
theorem meet_any (w : World) (B hw hp : Nat) (ca : Option Addr) (cc n H : Nat) (D : List Int) (X : List Th) (next : Int) (hk : WkAt w B hw hp ca cc n H D X next) (hB : B ≤ H) (hBh : B ≤ hp) (hX : X.length < 9000) (hn0 : 0 ≤ next) (hn1 : next ≤ 9000) (hDn : D.length = n) (hn5 : n ≤ 9000) (at_ : Nat) (ha : at_ < n) (d : Int) (hd0 : 0 ≤ d) (v : Int) (hv : D[at_]? = some v) (hvd : v < 0 ∨ v = d) :
    Calls Try.prog 36 #[.pointer (some ⟨hw, 0, none⟩), .int .i64 at_, .int .i64 d] w (MeetPost w B hw hp ca cc n H D X next at_ d) := by
  have HK := Lib.hid hk
  obtain ⟨da, dc, ao, cap, L, hW, hD, hh⟩ := hk
  have p0 : w.cell? ⟨hw, 0, none⟩ = some (.slice ca n cc) := (cell_block hW).trans rfl
  have p1 : w.cell? ⟨hw, 1, none⟩ = some (.slice (some ⟨da, 0, none⟩) n dc) := by rw [← hDn]; exact (cell_block hW).trans rfl
  have p2 : w.cell? ⟨hw, 2, none⟩ = some (.pointer (some ⟨hp, 0, none⟩)) := (cell_block hW).trans rfl
  have c0 := row_cell hD hv
  have hai : (at_ : Int) < n := by omega
  have hae : ¬ at_ = n := by omega
  have hae2 : ¬ (at_ : Int) = n := by omega
  have ha5 : at_ ≤ 9000 := by omega
  have HW := Lib.hid hW; have HD := Lib.hid hD; have HH := Lib.hid hh; have HV := Lib.hid hv; have HDN := Lib.hid hDn
  clear hW hD hh hv hDn
  rcases hvd with hneg | rfl
  · have hrow : B ≤ da ∧ ∃ cur, w.heap[da]? = some (.cells cur 3 (0, 0)) := by
      rcases HD.out.2 with ⟨e, _⟩ | ⟨g', cap', cur, e, hb, hg, _⟩
      · cases e
      · cases e; exact ⟨hb, cur, hg⟩
    obtain ⟨hBd, cur, hcur⟩ := hrow
    have fz : w.frozen? ⟨da, at_, none⟩ = false := by unfold World.frozen?; rw [hcur]; simp
    have e1 : Hid ((w.setCell ⟨da, at_, none⟩ (.int .i64 d)).heap[hw]? = some (.cells #[.slice ca n cc, .slice (some ⟨da, 0, none⟩) (D.set at_ d).length dc, .pointer (some ⟨hp, 0, none⟩)] 57 (0, 0))) := Lib.hid (by
      rw [List.length_set]
      exact (Below.heap_setCell _ _ _ _ (fun e => by
        have e' : hw = da := e
        have := HW.out
        rw [e', hcur] at this; cases this)).trans HW.out)
    have e2 := Lib.hid (own_setD HD.out at_ d)
    have hne1 : hp ≠ da := fun e => by
      have := HH.out.1
      rw [e, hcur] at this; cases this
    have hM := HH.out.2.2
    have e3 : Hid (HpO (w.setCell ⟨da, at_, none⟩ (.int .i64 d)) B hp ao cap H X next L) := Lib.hid ⟨(Below.heap_setCell _ _ _ _ hne1).trans HH.out.1, own_not91 HH.out.2.1 hcur (by decide) _ _, hM.setCell (x := ⟨da, at_, none⟩) (map_ne hM hcur) _⟩
    have e4 : Hid (FrW B hp w (w.setCell ⟨da, at_, none⟩ (.int .i64 d))) := Lib.hid ((FrW.refl B hp w).setD hcur hBd _ _)
    have e5 : Hid ((w.setCell ⟨da, at_, none⟩ (.int .i64 d)).cell? ⟨da, at_, none⟩ = some (.int .i64 d)) := Lib.hid (row_cell e2.out (by rw [List.getElem?_set_self (by rw [HDN.out]; exact ha)]))
    clear hcur hM
    go_enter Try.func36, Try.ntmps36
    go_upto_region 5 with fail
    obtain ⟨wa, hwa⟩ : ∃ wa, w.setCell ⟨da, at_, none⟩ (.int .i64 d) = wa := ⟨_, rfl⟩
    rw [hwa] at e1 e2 e3 e4 e5 ⊢
    clear hwa p0 p1 p2 c0 fz
    have p2 : wa.cell? ⟨hw, 2, none⟩ = some (.pointer (some ⟨hp, 0, none⟩)) := (cell_block e1.out).trans rfl
    go_wp2_with fail
    refine (push_any wa B hp cap H ao X next L e3.out hB hBh (by omega) hn0 (by omega) at_ d).mono ?_
    rintro e w5 hp5
    obtain ⟨rfl, ⟨ao', cap', X', L', hperm, hz⟩, hf⟩ := hp5
    have g1 : Hid (w5.heap[hw]? = some (.cells #[.slice ca n cc, .slice (some ⟨da, 0, none⟩) (D.set at_ d).length dc, .pointer (some ⟨hp, 0, none⟩)] 57 (0, 0))) := Lib.hid (hf.2 _ _ _ _ e1.out (fun e => by
      have h1 := HW.out; have h2 := HH.out.1
      rw [e, h2] at h1; cases h1) (by decide))
    have g2 : Hid (w5.ownsRow B 3 1 (.slice (some ⟨da, 0, none⟩) (D.set at_ d).length dc) (D.set at_ d).length ((D.set at_ d).map (Value.int .i64))) := Lib.hid (own_frt e2.out hf hne1)
    have HP := Lib.hid hperm; have HZ := Lib.hid hz; have HF := Lib.hid (e4.out.trans (.of_frt hf))
    clear hperm hz hf
    have p1 : w5.cell? ⟨hw, 1, none⟩ = some (.slice (some ⟨da, 0, none⟩) n dc) := by
      have h1 := cell_block (o := 1) g1.out
      rw [List.length_set, HDN.out] at h1
      exact h1.trans rfl
    have c0 : w5.cell? ⟨da, at_, none⟩ = some (.int .i64 d) := row_cell g2.out (by rw [List.getElem?_set_self (by rw [HDN.out]; exact ha)])
    go_wp2_with fail
    go_ret
    exact ⟨rfl, HF.out, .inr ⟨v, X', HV.out, hneg, HP.out, da, dc, ao', cap', L', g1.out, g2.out, HZ.out⟩⟩
  · have hnn : ¬ v < 0 := by omega
    go_enter Try.func36, Try.ntmps36
    go_wp2_with fail
    go_ret
    exact ⟨rfl, FrW.refl _ _ _, .inl ⟨HV.out, HK.out⟩⟩
end Go.Proofs.Ytkpgnopimnamfaa
namespace Go.Proofs.Ytkpgnopimnamfaa
open Go.ChangeShapes Go.WideShapes Go.ChangeAt Go.RowKit
/-- How many places were not met. -/
def unmet (D : List Int) : Nat := D.countP fun v => decide (v < 0)
/-- Each depth that was met is the place's; each thing to come is a place with its depth. -/
def Inv (n : Nat) (Dp : Nat → Int) (D : List Int) (X : List Th) (next : Int) : Prop :=
  D.length = n ∧ (∀ (i : Nat) (v : Int), D[i]? = some v → v < 0 ∨ v = Dp i) ∧ (∀ x ∈ X, ∃ i : Nat, x.1 = (i : Int) ∧ i < n ∧ x.2.2 = Dp i) ∧ next + unmet D = n ∧ (X.length : Int) ≤ next
def ThPost (w : World) (B hw hp : Nat) (ca : Option Addr) (cc n H : Nat) (Dp : Nat → Int) (D : List Int) (X : List Th) (e : Ending) (w' : World) : Prop :=
  e = .returned (.bool true) ∧ FrW B hp w w' ∧ ∃ D' X' next', WkAt w' B hw hp ca cc n H D' X' next' ∧ Inv n Dp D' X' next' ∧ 2 * unmet D' + X'.length ≤ 2 * unmet D + X.length
theorem unmet_set {D : List Int} {i : Nat} {v d : Int} (hv : D[i]? = some v) (hn : v < 0) (hd : 0 ≤ d) : unmet (D.set i d) + 1 = unmet D := by
  obtain ⟨hi, rfl⟩ := List.getElem?_eq_some_iff.1 hv
  unfold unmet
  rw [List.countP_set hi]
  have h1 : decide (D[i] < 0) = true := by simpa using hn
  have h2 : decide (d < 0) = false := by simp; omega
  rw [h1, h2]
  have : 0 < D.countP fun v => decide (v < 0) := List.countP_pos_iff.2 ⟨D[i], List.getElem_mem hi, h1⟩
  simp
  omega
theorem meet_inv (w : World) (B hw hp : Nat) (ca : Option Addr) (cc n H : Nat) (Dp : Nat → Int) (D : List Int) (X : List Th) (next : Int) (hk : WkAt w B hw hp ca cc n H D X next) (hB : B ≤ H) (hBh : B ≤ hp) (hI : Inv n Dp D X next) (hn5 : n ≤ 8500) (at_ : Nat) (ha : at_ < n) (d : Int) (hd : Dp at_ = d) (hd0 : 0 ≤ d) :
    Calls Try.prog 36 #[.pointer (some ⟨hw, 0, none⟩), .int .i64 at_, .int .i64 d] w (ThPost w B hw hp ca cc n H Dp D X) := by
  obtain ⟨i1, i2, i3, i4, i5⟩ := hI
  obtain ⟨v, hv⟩ : ∃ v, D[at_]? = some v := ⟨_, List.getElem?_eq_some_iff.2 ⟨by omega, rfl⟩⟩
  have hvd : v < 0 ∨ v = d := by rw [← hd]; exact i2 at_ v hv
  have hu : (0 : Int) ≤ unmet D := by omega
  refine (meet_any w B hw hp ca cc n H D X next hk hB hBh (by omega) (by omega) (by omega) i1 (by omega) at_ ha d hd0 v hv hvd).mono ?_
  rintro e w' ⟨rfl, hf, hc⟩
  refine ⟨rfl, hf, ?_⟩
  rcases hc with ⟨_, hk'⟩ | ⟨v', X', hv', hneg, hperm, hk'⟩
  · exact ⟨D, X, next, hk', ⟨i1, i2, i3, i4, i5⟩, Nat.le_refl _⟩
  · have hus := unmet_set hv' hneg hd0
    have hlen := hperm.length_eq
    simp only [List.length_append, List.length_singleton] at hlen
    refine ⟨_, X', _, hk', ⟨by rw [List.length_set]; exact i1, ?_, ?_, by omega, by omega⟩, by omega⟩
    · intro i u hu'
      by_cases hie : at_ = i
      · subst hie
        rw [List.getElem?_set_self (by omega)] at hu'
        right
        rw [hd]
        simpa using hu'.symm
      · rw [List.getElem?_set_ne hie] at hu'
        exact i2 i u hu'
    · intro x hx
      rcases List.mem_append.1 (hperm.mem_iff.1 hx) with hx | hx
      · exact i3 x hx
      · obtain rfl : x = ((at_ : Int), next, d) := by simpa using hx
        exact ⟨at_, rfl, ha, hd.symm⟩
theorem CodeAt.upB {w w' : World} {B : Nat} {ao : Option Addr} {C : List Ins} (h : CodeAt w ao C) (hg : ∀ g, ao = some ⟨g, 0, none⟩ → g < B) (hb : Below B w w') : CodeAt w' ao C := fun k x hx => by
  obtain ⟨g, h0, h1, h2, h3, h4⟩ := h k x hx
  have := hg g h0
  exact ⟨g, h0, cell_up h1 hb this, cell_up h2 hb this, cell_up h3 hb this, cell_up h4 hb this⟩
theorem WkAt.below {w w' : World} {B hw hp cc n H : Nat} {ca : Option Addr} {D : List Int} {X : List Th} {next : Int} (h : WkAt w B hw hp ca cc n H D X next) (hb : Below w.heap.size w w') : WkAt w' B hw hp ca cc n H D X next := by
  obtain ⟨da, dc, ao, cap, L, h1, h2, h3⟩ := h
  refine ⟨da, dc, ao, cap, L, (hb.block _ (Array.getElem?_eq_some_iff.1 h1).1).trans h1, ⟨h2.1, ?_⟩, h3.below hb⟩
  rcases h2.2 with hn | ⟨g', cp, cur, e, hB, hgg, r⟩
  · exact .inl hn
  · exact .inr ⟨g', cp, cur, e, hB, (hb.block _ (Array.getElem?_eq_some_iff.1 hgg).1).trans hgg, r⟩
end Go.Proofs.Ytkpgnopimnamfaa
