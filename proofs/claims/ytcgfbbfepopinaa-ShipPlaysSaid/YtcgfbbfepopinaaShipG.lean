/-
  Package ship: slices.DeleteFunc as Ack calls it.
-/
import Derived.Test.YtcgfbbfepopinaaShipF
namespace Go.Proofs.Ytcgfbbfepopinaa
open Go.RowKit Go.Shoal

def ackF (z : Nat) : Value := .func (.func 29) #[] #[.pointer (some ⟨z, 0, none⟩)]
set_option maxHeartbeats 1000000 in
theorem index_first (b o m cap z num n : Nat) (Ab : Option Addr) (lb cb : Nat) (w : World) (hm : 0 < m) (h0 : w.cell? ⟨b, o, none⟩ = some (.int .u64 num)) (h1 : w.cell? ⟨b, o + 1, none⟩ = some (.slice Ab lb cb)) (hz : w.cell? ⟨z, 0, none⟩ = some (.int .u64 n)) (hn : num ≤ n) :
    Calls Try.prog 39 #[.slice (some ⟨b, o, none⟩) m cap, ackF z] w fun e w' => e = .returned (.int .i64 0) ∧ Mod (fun _ => False) w w' := by
  have HA := ack1_any num n (.slice Ab lb cb) z w hz
  rw [decide_eq_true hn] at HA
  have HA' := Lib.hid HA
  have hm0 : (0 : Int) < (m : Int) := by omega
  have t0 : decide ((0 : Int) < (m : Int)) = true := decide_eq_true hm0
  have t1 : decide (0 < m) = true := decide_eq_true hm
  unfold ackF
  clear HA hz hn
  go_enter Try.func39, Try.ntmps39
  go_wp2
  refine wp_loop_rounds 1 ?_
  rw [rounds_succ]
  go_wp2_with fail
  refine HA'.out.mono ?_
  rintro e w1 ⟨rfl, hmod⟩
  have HM := Lib.hid hmod
  clear hmod
  go_wp2
  go_ret
  exact ⟨rfl, HM.out⟩

/-- What stays of the first ones. -/
def keptOf (n : Nat) (l : List (It × Value)) : List (It × Value) := l.filter fun p => decide (n < p.1.num)
/-- While DeleteFunc deletes: the block's cells. -/
def DelRel (w : World) (b o sz n : Nat) (l : List (It × Value)) (k : Nat) (wr : World) : Prop :=
  ∃ cur, wr.heap[b]? = some (.cells cur 45 (0, 0)) ∧ cur.size = sz ∧ (∀ q, q < (keptOf n (l.take k)).length * 2 → cur[o + q]? = (flat (keptOf n (l.take k)))[q]?) ∧ (∀ q, k * 2 ≤ q → q < l.length * 2 → cur[o + q]? = (flat l)[q]?) ∧ Mod (· = b) w wr
theorem keptOf_len (n : Nat) (l : List (It × Value)) (k : Nat) : (keptOf n (l.take k)).length ≤ k := Nat.le_trans (List.length_filter_le _ _) (List.length_take_le _ _)
theorem keptOf_snoc (n : Nat) (l : List (It × Value)) (k : Nat) (p : It × Value) (h : l[k]? = some p) : keptOf n (l.take (k + 1)) = keptOf n (l.take k) ++ (if n < p.1.num then [p] else []) := by
  unfold keptOf
  rw [List.take_add_one, h, List.filter_append]
  congr 1
  show List.filter _ [p] = _
  by_cases hp : n < p.1.num <;> simp [hp]
theorem DelRel.drop {w wr w1 : World} {b o sz n k : Nat} {l : List (It × Value)} {p : It × Value} (h : DelRel w b o sz n l k wr) (hp : l[k]? = some p) (hn : ¬ n < p.1.num) (hm : Mod (fun _ => False) wr w1) : DelRel w b o sz n l (k + 1) w1 := by
  obtain ⟨cur, h1, h2, h3, h4, h5⟩ := h
  have e : keptOf n (l.take (k + 1)) = keptOf n (l.take k) := by rw [keptOf_snoc n l k p hp, if_neg hn, List.append_nil]
  exact ⟨cur, hm.blk h1 (fun x => x), h2, by rw [e]; exact h3, fun q hq => h4 q (by omega), h5.trans' hm (fun _ _ x => x.elim)⟩
theorem DelRel.keep {w wr w1 : World} {b o sz n k : Nat} {l : List (It × Value)} {p : It × Value} (h : DelRel w b o sz n l k wr) (hp : l[k]? = some p) (hn : n < p.1.num) (hm : Mod (fun _ => False) wr w1) (hk : (keptOf n (l.take k)).length < k) (hs : o + l.length * 2 ≤ sz) :
    DelRel w b o sz n l (k + 1) ((w1.setCell ⟨b, o + (keptOf n (l.take k)).length * 2, none⟩ (.int .u64 p.1.num)).setCell ⟨b, o + (keptOf n (l.take k)).length * 2 + 1, none⟩ p.2) := by
  obtain ⟨cur, h1, h2, h3, h4, h5⟩ := h
  have e : keptOf n (l.take (k + 1)) = keptOf n (l.take k) ++ [p] := by rw [keptOf_snoc n l k p hp, if_pos hn]
  have hkl : k < l.length := (List.getElem?_eq_some_iff.1 hp).1
  generalize keptOf n (l.take k) = kp at *
  have h1' := hm.blk h1 (fun x => x)
  have b1 := blk_set h1' (o + kp.length * 2) (.int .u64 p.1.num)
  have b2 := blk_set b1 (o + kp.length * 2 + 1) p.2
  refine ⟨_, b2, by simp [h2], fun q hq => ?_, fun q hq hql => ?_, ((h5.trans' hm (fun _ _ x => x.elim)).set (fun _ => rfl) _).set (fun _ => rfl) _⟩
  · rw [e] at hq ⊢
    rw [List.length_append, List.length_singleton] at hq
    rw [flat_append]
    have hfl : (flat kp).length = kp.length * 2 := flat_length kp
    rw [Array.getElem?_setIfInBounds, Array.getElem?_setIfInBounds, Array.size_setIfInBounds, h2]
    by_cases q1 : q = kp.length * 2 + 1
    · subst q1
      rw [if_pos (by omega), if_pos (by omega), List.getElem?_append_right (by omega), hfl, show kp.length * 2 + 1 - kp.length * 2 = 1 by omega]
      rfl
    · rw [if_neg (by omega)]
      by_cases q0 : q = kp.length * 2
      · subst q0
        rw [if_pos rfl, if_pos (by omega), List.getElem?_append_right (by omega), hfl, Nat.sub_self]
        rfl
      · rw [if_neg (by omega), List.getElem?_append_left (by omega)]
        exact h3 q (by omega)
  · rw [Array.getElem?_setIfInBounds, if_neg (by omega), Array.getElem?_setIfInBounds, if_neg (by omega)]
    exact h4 q (by omega) hql
/-- What DeleteFunc leaves. -/
def DelEnd (w : World) (b o cap n : Nat) (l : List (It × Value)) (e : Ending) (w' : World) : Prop :=
  e = .returned (.slice (some ⟨b, o, none⟩) (keptOf n l).length cap) ∧ RowOf w' 45 2 (.slice (some ⟨b, o, none⟩) (keptOf n l).length cap) (keptOf n l).length (flat (keptOf n l)) ∧ Mod (· = b) w w'
theorem Try.zeroItem (w : World) : (zeroValue 45).run Try.prog w = .ok (.agg #[.int .u64 0, .slice none 0 0]) w := by kernel_rfl
/-- clear over items. -/
theorem run_clear_items (w : World) (ty : TypeId) (b o m c : Nat) (hm : 0 < m) (hc : ∀ j, j < m * 2 → (w.cell? ⟨b, o + j, none⟩).isSome = true) (hf : ∀ j, w.frozen? ⟨b, o + j, none⟩ = false) :
    (Builtin.clear_ #[28] ty #[.slice (some ⟨b, o, none⟩) m c]).run Try.prog w = .ok (.tuple #[]) (w.setCells b o (Builtin.zeroCells #[.int .u64 0, .slice none 0 0] m).toList) := by
  have hl : (Builtin.zeroCells #[.int .u64 0, .slice none 0 0] m).toList.length = m * 2 := by
    rw [Array.length_toList, size_zeroCells]
    rfl
  have hone : ∀ v ∈ (Builtin.zeroCells #[.int .u64 0, .slice none 0 0] m).toList, v.oneCell' = true := by
    intro v hv
    have hv' := Array.mem_toList_iff.1 hv
    obtain ⟨i, hi, e⟩ := Array.mem_iff_getElem.1 hv'
    simp [Builtin.zeroCells] at e
    rw [← e]
    rcases Nat.mod_two_eq_zero_or_one i with h | h <;> simp [h, Value.oneCell']
  have hst := run_storeCells_cells (P := Try.prog) b o (Builtin.zeroCells #[.int .u64 0, .slice none 0 0] m).toList 0 w (fun j hj => by simpa using hc j (by omega)) (fun j _ => by simpa using hf j) hone
  simp only [Nat.add_zero] at hst
  obtain ⟨q, rfl⟩ : ∃ q, m = q + 1 := ⟨m - 1, by omega⟩
  simp [Builtin.clear_, run_underlying Try.underlying28, Value.cells, hst]
end Go.Proofs.Ytcgfbbfepopinaa
