/- check.Slots, whole. -/
import Derived.Test.YtkpgnopimnamfaaS2
namespace Go.Proofs.Ytkpgnopimnamfaa
open Go.ChangeShapes Go.WideShapes Go.ChangeAt Go.RowKit
theorem okRs_mem {p : Nat} {n : Int} : ∀ {ks : List Ro} {i : Nat}, okRs p n i ks → ∀ k ∈ ks, ∃ may, okR may k
  | [], _, _, k, hk => absurd hk (by simp)
  | r :: rs, i, h, k, hk => by
    rcases List.mem_cons.1 hk with rfl | hk
    · exact ⟨_, h.1⟩
    · exact okRs_mem h.2 k hk
theorem flats_mem : ∀ {ks : List Ro} {k : Ro}, k ∈ ks → k.flat.length ≤ (flats ks).length
  | [], k, hk => absurd hk (by simp)
  | r :: rs, k, hk => by
    simp only [flats, List.length_append]
    rcases List.mem_cons.1 hk with rfl | hk
    · omega
    · have := flats_mem hk; omega
theorem slots_any (pa : Option Addr) (cap : Nat) (T : List Tw) (hT : T.length ≤ 2048) (bt H bs bm bo bn bq be bw : Nat) (ho : OrdS bt H bs bm bo bn bq be bw) : ∀ (n : Nat) (r : Ro), r.flat.length ≤ n → ∀ may, okR may r → ∀ (w : World) (made a : Nat) (outs : List Int) (L : Seen),
    SF w pa cap T bt H bs bm bo bn bq be bw → SV w bm bo bn bq made outs a 0 → MapAt keyS w H (mv L) → Lies T a r.flat → made + r.flat.length ≤ 5000 → outs.length + r.flat.length ≤ 5000 →
      Calls Try.prog 18 #[pt bt, pt bn, pt bm, pt be, pt bs, pt bq, pt bo, pt bw] w (SlPost w pa cap T bt H bs bm bo bn bq be bw outs a L (sl L made r))
  | 0, r, hn, _, _, _, _, _, _, _, _, _, _, _, _, _ => by have := flat_pos r; omega
  | n + 1, .node (op, kids, num, text) ks, hn, may, hok, w, made, a, outs, L, hF, hV, hM, hl, hm, hol => by
    refine slot_head w pa cap T bt H bs bm bo bn bq be bw ho made a outs L hF hV hM op kids num text ks hl hok.2.1 hm hol hT ?_
    intro k hk w' made' a' outs' L' hF' hV' hM' hl' hm' hol'
    obtain ⟨may', hok'⟩ := okRs_mem hok.2.2 k hk
    have h1 := flats_mem hk
    simp only [Ro.flat, List.length_cons] at hn
    exact slots_any pa cap T hT bt H bs bm bo bn bq be bw ho n k (by omega) may' hok' w' made' a' outs' L' hF' hV' hM' hl' hm' hol'
/-- What Slots says: the slots, the place, the error. -/
def slotsSpec (T : List Tw) (r : Ro) : Option (List Int) × Int × Int :=
  if (treeSpec T).2 ≠ 0 then (none, (treeSpec T).1, (treeSpec T).2) else
  if (T.head?.map Tw.op) ≠ some 1 then (none, 0, 3) else
  if (sl [] 0 r).2.2.2.2.1 ≠ 0 then (none, ((sl [] 0 r).2.2.2.2.2 : Int), (sl [] 0 r).2.2.2.2.1) else (some (sl [] 0 r).2.2.2.1, 0, 0)
end Go.Proofs.Ytkpgnopimnamfaa
