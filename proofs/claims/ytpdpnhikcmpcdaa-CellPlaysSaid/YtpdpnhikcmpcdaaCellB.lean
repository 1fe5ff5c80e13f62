/-
  Clone and Repeat.
-/
import Derived.Test.YtpdpnhikcmpcdaaCellA
import Derived.Test.YtpdpnhikcmpcdaaFlat
import Derived.Laws.OwnMore
namespace Go.Proofs.Ytpdpnhikcmpcdaa
open Go.RowKit Go.Shoal

theorem Try.infoSet : (Try.prog.info? 68).map (fun i => (i.zero, i.size, i.bytes)) = some (some (.int .u64 0), 1, 8) := by kernel_rfl
theorem Try.infoVal : (Try.prog.info? 35).map (fun i => (i.zero, i.size, i.bytes)) = some (some (.agg #[.float .f64 0, .int .i64 0, .int .u64 0]), 3, 24) := by kernel_rfl
def setCellsV (l : List Nat) : List Value := l.map fun (s : Nat) => Value.int .u64 (s : Int)
/-- A slice of sets as a source. -/
theorem SetsIn.src {w : World} {a : Addr} {c : Nat} {l : List Nat} (h : SetsIn w (.slice (some a) l.length c) l) : SrcOk w (.slice (some a) l.length c) l.length 1 (setCellsV l) := by
  obtain ⟨A, c', he, _, hx, _⟩ := h
  refine .inr ⟨a, c, rfl, by simp [setCellsV], fun j u hu => ?_, fun u hu => ?_⟩
  · unfold setCellsV at hu
    rw [List.getElem?_map] at hu
    have hj : j < l.length := by
      rcases Nat.lt_or_ge j l.length with h | h
      · exact h
      · rw [List.getElem?_eq_none h] at hu; cases hu
    rcases hx with rfl | ⟨b, o, hA, _, hc⟩
    · simp at hj
    · cases he
      cases hA
      rw [Addr.add_lit, hc j hj, ← hu, List.getD_eq_getElem?_getD, List.getElem?_eq_getElem hj]
      rfl
  · obtain ⟨s, _, rfl⟩ := List.mem_map.1 hu
    rfl
theorem SetsIn.of_row {w : World} {e : Nat} {v : Value} {l : List Nat} (h : RowOf w e 1 v l.length (setCellsV l)) (hl : l.length ≤ maxLen) (hw : ∀ s ∈ l, s < 18446744073709551616) : SetsIn w v l := by
  obtain ⟨h1, h2⟩ := h
  rcases h2 with ⟨rfl, h3⟩ | ⟨g, o, cap, cur, rfl, hh, _, _, hc, ht⟩
  · have := List.eq_nil_of_length_eq_zero h3
    subst this
    exact ⟨none, 0, rfl, hl, .inl rfl, hw⟩
  · refine ⟨_, cap, rfl, hl, .inr ⟨g, o, rfl, blk_lt hh, fun i hi => ?_⟩, hw⟩
    rw [blk_cell hh, ht i (by omega)]
    unfold setCellsV
    rw [List.getElem?_map, List.getD_eq_getElem?_getD, List.getElem?_eq_getElem hi]
    rfl
def ClonedS (w : World) (l : List Nat) (e : Ending) (w' : World) : Prop := ∃ v', e = .returned v' ∧ RowOf w' 68 1 v' l.length (setCellsV l) ∧ Mod (fun _ => False) w w' ∧ ∀ q, v'.ownBlock = some q → w.heap.size ≤ q
set_option maxHeartbeats 1000000 in
theorem clones_any (v : Value) (l : List Nat) (w : World) (h : SetsIn w v l) (hl : l.length ≤ 1000) : Calls Try.prog 25 #[v] w (ClonedS w l) := by
  obtain ⟨i0, hii, hz0, hz1, hz2⟩ := info_parts Try.infoSet
  have H := h
  obtain ⟨A, c, rfl, hlm, hx, hw⟩ := h
  have hnil := fun (a : Option Addr) (n c : Nat) (w : World) => Lib.run_eql_slice_nil (P := Try.prog) w 28 68 a n c 0 0 Try.underlying28
  cases A with
  | none =>
    have h0 : l = [] := by
      rcases hx with h | ⟨b, o, h, _⟩
      · exact h
      · cases h
    subst h0
    have HC : Hid (ClonedS w [] (.returned (.slice none 0 0)) w) := ⟨_, rfl, RowOf.nil _ _ _, Mod.refl _ _, fun q hq => by cases hq⟩
    clear hx hw H hlm
    go_enter Try.func25, Try.ntmps25
    go_wp2
    go_ret
    exact HC.out
  | some a =>
    have HO : Hid ((w.alloc (Obj.cells #[] 68)).ownsRow w.heap.size 68 1 (.slice (some ⟨w.heap.size, 0, none⟩) 0 0) 0 []) := World.ownsRow_made w #[] 0 (Nat.le_refl _) (by unfold maxLen; omega) rfl
    have HB : Hid (SrcOk (w.alloc (Obj.cells #[] 68)) (.slice (some a) l.length c) l.length 1 (setCellsV l)) := (SetsIn.src H).below ((Below.refl _ _).alloc (Nat.le_refl _) _)
    clear hx hw H hlm
    go_enter Try.func25, Try.ntmps25
    go_wp2_with (at_builtin; refine wpList_append_src (by rfl) _ _ 28 (by rfl) w.heap.size 68 i0 (.int .u64 0) 1 8 Try.underlying28 hii hz0 hz1 hz2 rfl (by omega) (.slice (some ⟨w.heap.size, 0, none⟩) 0 0) 0 [] (by rfl) HO.out (.slice (some a) l.length c) l.length (setCellsV l) (by rfl) HB.out (by unfold maxLen; omega) (by omega) (by simp) ?_)
    intro v1 w1 hown hgrow hat
    try simp only [Nat.zero_add, List.nil_append] at hown
    have HC : Hid (ClonedS w l (.returned v1) w1) := ⟨v1, rfl, RowOf.of_own hown, ((Mod.refl (fun _ => False) w).alloc _).grown hgrow (fun k hk => by cases hk; exact Nat.le_refl _), own_base hown⟩
    clear hown hgrow hat
    go_wp2
    go_ret
    exact HC.out
/-- What a variable has. -/
structure Vl where
  x : Nat
  writer : Int
  tag : Nat
def Vl.cells (v : Vl) : List Value := [.float .f64 v.x, .int .i64 v.writer, .int .u64 v.tag]
theorem Vl.len (v : Vl) : v.cells.length = 3 := rfl
def vl0 : Vl := ⟨0, -1, 0⟩
def Repeated (w : World) (n : Nat) (e : Ending) (w' : World) : Prop := ∃ r, e = .returned (.slice (some ⟨r, 0, none⟩) n n) ∧ w'.heap[r]? = some (.cells ((List.replicate n vl0).flatMap Vl.cells).toArray 35 (0, 0)) ∧ w.heap.size ≤ r ∧ Mod (fun _ => False) w w'
/-- While Repeat fills: k elements are there. -/
def RepRel (w0 : World) (r n k : Nat) (wr : World) : Prop :=
  k ≤ n ∧ ∃ cur : Array Value, wr.heap[r]? = some (.cells cur 35 (0, 0)) ∧ cur.size = n * 3 ∧ (∀ i j, i < k → j < 3 → cur[i * 3 + j]? = vl0.cells[j]?) ∧ Mod (· = r) w0 wr
theorem RepRel.step {w0 wr w1 : World} {r n k m : Nat} {cur : Array Value} (h1 : cur.size = n * 3) (h2 : ∀ i j, i < k → j < 3 → cur[i * 3 + j]? = vl0.cells[j]?) (hm0 : Mod (· = r) w0 wr) (hk : k + m ≤ n)
    (hg : w1.heap[r]? = some (.cells (splice cur.toList (k * 3) ((List.replicate m vl0).flatMap Vl.cells)).toArray 35 (0, 0))) (hm : Mod (· = r) wr w1) : RepRel w0 r n (k + m) w1 := by
  have hl := flat_len Vl.len (List.replicate m vl0)
  rw [List.length_replicate] at hl
  refine ⟨hk, _, hg, ?_, fun i j hi hj => ?_, hm0.trans hm⟩
  · rw [List.size_toArray, length_splice _ _ _ (by rw [hl, Array.length_toList]; omega), Array.length_toList, h1]
  · rw [List.getElem?_toArray]
    unfold splice
    by_cases hik : i < k
    · rw [List.getElem?_append_left (by rw [List.length_take, Array.length_toList]; omega), List.getElem?_take, if_pos (by omega), Array.getElem?_toList]
      exact h2 i j hik hj
    · have ht : (cur.toList.take (k * 3)).length = k * 3 := by rw [List.length_take, Array.length_toList]; omega
      rw [List.getElem?_append_right (by omega), ht, List.getElem?_append_left (by omega), show i * 3 + j - k * 3 = (i - k) * 3 + j by omega]
      exact flat_at Vl.len _ (i - k) j vl0 (by rw [List.getElem?_replicate, if_pos (by omega)]) hj
end Go.Proofs.Ytpdpnhikcmpcdaa
