/-
  The reference's Post.
-/
import Derived.Test.YtmpeijlfflfkbaaPostK
import Derived.Test.YtmpeijlfflfkbaaGrow
import Derived.StillTailTactics
import Derived.Outline
namespace Go.Proofs.Ytmpeijlfflfkbaa
open Go.RowKit Go.Shoal Go.Conc

/-- A slice of whole numbers at or above a block. -/
def RowAt (base : Nat) (w : World) (v : Value) (xs : List Int) : Prop :=
  (v = .slice none 0 0 ∧ xs = []) ∨ ∃ b o c cs, v = .slice (some ⟨b, o, none⟩) xs.length c ∧ xs.length ≤ c ∧ base ≤ b ∧ w.heap[b]? = some (.cells cs 3 (0, 0)) ∧ ∀ i, i < xs.length → cs[o + i]? = some (.int .i64 (xs.getD i 0))
/-- The reference's Post: what it has. -/
def RefP (base : Nat) (w : World) (W g n room : Nat) (L : Nat → List Int) : Prop :=
  ∃ (cells : Array Value), base ≤ W ∧ base ≤ g ∧ w.heap[W]? = some (.cells #[.int .i64 room, .slice (some ⟨g, 0, none⟩) n n] 49 (0, 0)) ∧ w.heap[g]? = some (.cells cells 22 (0, 0)) ∧ cells.size = n ∧
    ∀ i, i < n → ∃ v, cells[i]? = some v ∧ RowAt base w v (L i)
theorem RowAt.keep {base : Nat} {w w' : World} {v : Value} {xs : List Int} (h : RowAt base w v xs) (hb : ∀ b, base ≤ b → ∀ cs, w.heap[b]? = some (.cells cs 3 (0, 0)) → w'.heap[b]? = some (.cells cs 3 (0, 0))) : RowAt base w' v xs := by
  rcases h with h | ⟨b, o, c, cs, h1, h2, h3, h4, h5⟩
  · exact .inl h
  · exact .inr ⟨b, o, c, cs, h1, h2, h3, hb b h3 cs h4, h5⟩
theorem RefP.mod {S : Nat → Prop} {base : Nat} {w w' : World} {W g n room : Nat} {L : Nat → List Int} (h : RefP base w W g n room L) (hm : Mod S w w') (hS : ∀ k, base ≤ k → ¬ S k) : RefP base w' W g n room L := by
  obtain ⟨cells, h1, h2, h3, h4, h5, h6⟩ := h
  exact ⟨cells, h1, h2, hm.blk h3 (hS _ h1), hm.blk h4 (hS _ h2), h5, fun i hi => by
    obtain ⟨v, a, b⟩ := h6 i hi
    exact ⟨v, a, b.keep (fun b hb cs hc => hm.blk hc (hS _ hb))⟩⟩
def setI (L : Nat → List Int) (k : Nat) (l : List Int) : Nat → List Int := fun i => if i = k then l else L i
/-- A row is stored into the table of rows. -/
theorem RefP.store {base : Nat} {w : World} {W g n room : Nat} {cells : Array Value} {L : Nat → List Int} (h1 : base ≤ W) (h2 : base ≤ g) (h3 : w.heap[W]? = some (.cells #[.int .i64 room, .slice (some ⟨g, 0, none⟩) n n] 49 (0, 0)))
    (h4 : w.heap[g]? = some (.cells cells 22 (0, 0))) (h5 : cells.size = n) (h6 : ∀ i, i < n → ∃ v, cells[i]? = some v ∧ RowAt base w v (L i)) (k : Nat) (hk : k < n) (v : Value) (l : List Int) (hv : RowAt base w v l) :
    RefP base (w.setCell ⟨g, k, none⟩ v) W g n room (setI L k l) := by
  have hne : ∀ (b : Nat) (cs : Array Value), w.heap[b]? = some (Obj.cells cs 3 (0, 0)) → (w.setCell ⟨g, k, none⟩ v).heap[b]? = some (Obj.cells cs 3 (0, 0)) := fun b cs hb => blk_far hb (blk_ne hb h4 (show (3 : Nat) ≠ 22 by decide)) _
  refine ⟨cells.setIfInBounds k v, h1, h2, blk_far h3 (blk_ne h3 h4 (by decide)) _, blk_set h4 k v, by simp [h5], fun i hi => ?_⟩
  unfold setI
  by_cases hik : i = k
  · subst hik
    rw [if_pos rfl, Array.getElem?_setIfInBounds, if_pos rfl, h5, if_pos hi]
    exact ⟨v, rfl, hv.keep (fun b _ cs hc => hne b cs hc)⟩
  · rw [if_neg hik, Array.getElem?_setIfInBounds, if_neg (by omega)]
    obtain ⟨u, a, b⟩ := h6 i hi
    exact ⟨u, a, b.keep (fun b _ cs hc => hne b cs hc)⟩

set_option maxHeartbeats 1000000 in
theorem rget_out (W g n : Nat) (room : Int) (b : Int) (w : World) (hW : w.heap[W]? = some (.cells #[.int .i64 room, .slice (some ⟨g, 0, none⟩) n n] 49 (0, 0))) (hb : ¬ (0 ≤ b ∧ b < n)) :
    Calls Try.prog 20 #[.pointer (some ⟨W, 0, none⟩), .int .i64 b] w fun e w' => e = .returned (.tuple #[.int .i64 0, .bool false]) ∧ w = w' := by
  have c1 := (blk_cell hW 1).trans rfl
  by_cases h1 : b < 0
  · clear hb hW
    go_enter Try.func20, Try.ntmps20
    go_wp2
    go_ret2
    exact ⟨rfl, rfl⟩
  · have h2 : (n : Int) ≤ b := by omega
    clear hb hW
    go_enter Try.func20, Try.ntmps20
    go_wp2
    go_ret2
    exact ⟨rfl, rfl⟩
set_option maxHeartbeats 1000000 in
theorem rget_empty (W g n k c : Nat) (A : Option Addr) (room : Int) (cells : Array Value) (w : World) (hW : w.heap[W]? = some (.cells #[.int .i64 room, .slice (some ⟨g, 0, none⟩) n n] 49 (0, 0)))
    (hg : w.heap[g]? = some (.cells cells 22 (0, 0))) (hk : k < n) (hc : cells[k]? = some (.slice A 0 c)) :
    Calls Try.prog 20 #[.pointer (some ⟨W, 0, none⟩), .int .i64 k] w fun e w' => e = .returned (.tuple #[.int .i64 0, .bool false]) ∧ w = w' := by
  have c1 := (blk_cell hW 1).trans rfl
  have ck : w.cell? ⟨g, k, none⟩ = some (.slice A 0 c) := (blk_cell hg k).trans hc
  have h1 : (0 : Int) ≤ (k : Int) := by omega
  have h2 : (k : Int) < (n : Int) := by omega
  clear hW hg hc
  go_enter Try.func20, Try.ntmps20
  go_wp2
  go_ret2
  exact ⟨rfl, rfl⟩
set_option maxHeartbeats 1000000 in
theorem rget_row (W g n k m c bb o : Nat) (room x : Int) (cells : Array Value) (w : World) (hW : w.heap[W]? = some (.cells #[.int .i64 room, .slice (some ⟨g, 0, none⟩) n n] 49 (0, 0)))
    (hg : w.heap[g]? = some (.cells cells 22 (0, 0))) (hk : k < n) (hc : cells[k]? = some (.slice (some ⟨bb, o, none⟩) (m + 1) (c + 1))) (hmc : m ≤ c) (hx : w.cell? ⟨bb, o, none⟩ = some (.int .i64 x)) :
    Calls Try.prog 20 #[.pointer (some ⟨W, 0, none⟩), .int .i64 k] w fun e w' => e = .returned (.tuple #[.int .i64 x, .bool true]) ∧ w.drew.setCell ⟨g, k, none⟩ (.slice (some ⟨bb, if c = 0 then o else o + 1, none⟩) m c) = w' := by
  have c1 := (blk_cell hW 1).trans rfl
  have ck : w.cell? ⟨g, k, none⟩ = some (.slice (some ⟨bb, o, none⟩) (m + 1) (c + 1)) := (blk_cell hg k).trans hc
  have fk := blk_frozen hg k
  have h1 : (0 : Int) ≤ (k : Int) := by omega
  have h2 : (k : Int) < (n : Int) := by omega
  have t0 : ((m : Int) + 1 == 0) = false := beq_eq_false_iff_ne.2 (by omega)
  have h1m : (1 : Int) ≤ (m : Int) + 1 := by omega
  have t1 : decide ((k : Int) < 0) = false := decide_eq_false (by omega)
  have t2 : decide (n ≤ k) = false := decide_eq_false (by omega)
  clear hW hg hc
  by_cases hc0 : c = 0
  · subst hc0
    rw [if_pos rfl]
    go_enter Try.func20, Try.ntmps20
    go_wp2
    go_still_tail 13, (by kernel_rfl)
    change wpList _ _ _ _ _ w.drew
    go_wp2
    go_ret2
    exact ⟨rfl, by rw [show m = 0 by omega]; rfl⟩
  · rw [if_neg hc0]
    go_enter Try.func20, Try.ntmps20
    go_wp2
    go_still_tail 13, (by kernel_rfl)
    change wpList _ _ _ _ _ w.drew
    go_wp2
    go_ret2
    exact ⟨rfl, rfl⟩
end Go.Proofs.Ytmpeijlfflfkbaa
