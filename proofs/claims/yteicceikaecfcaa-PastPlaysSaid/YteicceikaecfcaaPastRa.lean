/-
  Package past: the reference's sets; its rows of yes and no.
-/
import Derived.Test.YteicceikaecfcaaPastM
import Derived.Deep.DeepCutAuto
namespace Go.Proofs.Yteicceikaecfcaa
open Go.RowKit Go.Shoal Go.Maps

theorem allOf_snoc (k : Nat) (h : k < 64) : allOf ((k : Int) + 1) = allOf k ||| oneOf k := by
  refine set_ext (allOf_lt _) (or_lt (allOf_lt _) (oneOf_lt _)) (fun i hi => ?_)
  rw [Nat.testBit_or, testBit_allOf, testBit_allOf, testBit_oneOf, Bool.eq_iff_iff]
  simp only [Bool.or_eq_true, decide_eq_true_eq]
  omega
theorem allOf_min (n : Int) (k : Nat) (h : (n ≤ k ∧ k ≤ n) ∨ (n ≤ 0 ∧ k = 0) ∨ (64 ≤ n ∧ k = 64)) : allOf k = allOf n := by
  unfold allOf
  rw [show (min (max (k : Int) 0) 64).toNat = (min (max n 0) 64).toNat by omega]
set_option maxHeartbeats 1000000 in
theorem rall_any (n : Int) (w : World) : Calls Try.prog 21 #[.int .i64 n] w fun e w' => e = .returned (.int .u64 ((allOf n : Nat) : Int)) ∧ w = w' := by
  go_enter Try.func21, Try.ntmps21
  go_wp2
  go_loop [3, 4] (fun s i => ∃ k : Nat, k ≤ 64 ∧ ((k : Int) ≤ n ∨ k = 0) ∧ i = .int .i64 k ∧ s = .int .u64 ((allOf k : Nat) : Int)) (fun _ i => 64 - (intOf i).toNat)
  case atStart => exact ⟨0, by omega, .inr rfl, rfl, rfl⟩
  case round =>
    obtain ⟨k, hk, hn, rfl, rfl⟩ := hrel
    by_cases h1 : (k : Int) < n
    · by_cases h2 : k < 64
      · have hs := allOf_lt k
        have hn0 : 0 ≤ ((allOf k : Nat) : Int) := by omega
        have h3 : (k : Int) < 64 := by omega
        have h4 : IntKind.u64.wrap (k : Int) = (k : Int) := by rw [IntKind.wrap_u64]; omega
        have HO := Lib.hid (oneOf_bits (p := (k : Int)) (by omega) h3)
        have HB := Lib.hid (or_bits (allOf k) (oneOf k) hs (oneOf_lt k))
        have HN := Lib.hid (allOf_snoc k h2)
        generalize allOf (k : Int) = s at *
        go_wp2
        go_round
        case rel => exact ⟨k + 1, by omega, .inl (by omega), by go_num, by rw [show ((k + 1 : Nat) : Int) = (k : Int) + 1 by omega, HN.out, ← HB.out, ← HO.out]; simp⟩
        case measure => simp [intOf]; omega
      · have hke : Hid (allOf k = allOf n) := allOf_min n k (by omega)
        have h3 : ¬ (k : Int) < 64 := by omega
        generalize allOf (k : Int) = s at *
        go_wp2
        go_ret
        exact ⟨by rw [hke.out]; rfl, rfl⟩
    · have hke : Hid (allOf k = allOf n) := allOf_min n k (by omega)
      generalize allOf (k : Int) = s at *
      go_wp2
      go_ret
      exact ⟨by rw [hke.out]; rfl, rfl⟩
set_option maxHeartbeats 400000 in
theorem rin_any (s : Nat) (p : Int) (w : World) (hs : s < 18446744073709551616) : Calls Try.prog 22 #[.int .u64 s, .int .i64 p] w fun e w' => e = .returned (.bool (inSet s p)) ∧ w = w' := by
  by_cases h1 : 0 ≤ p
  · by_cases h2 : p ≤ 63
    · have HE := Lib.hid (has_bits s p hs h1 (by omega))
      have h4 : IntKind.u64.wrap p = p := by rw [IntKind.wrap_u64]; omega
      go_enter Try.func22, Try.ntmps22
      go_wp2
      go_ret
      exact ⟨by rw [← HE.out]; rfl, rfl⟩
    · have HE : Hid (inSet s p = false) := by show inSet s p = false; unfold inSet; rw [decide_eq_false (show ¬ p < 64 by omega), Bool.and_false, Bool.false_and]
      go_enter Try.func22, Try.ntmps22
      go_wp2
      go_ret
      exact ⟨by rw [HE.out]; rfl, rfl⟩
  · have HE : Hid (inSet s p = false) := by show inSet s p = false; unfold inSet; rw [decide_eq_false h1, Bool.false_and, Bool.false_and]
    go_enter Try.func22, Try.ntmps22
    go_wp2
    go_ret
    exact ⟨by rw [HE.out]; rfl, rfl⟩

/-- A row of yes and no. -/
def Bits (w : World) (v : Value) (f : Nat → Bool) : Prop := ∃ L : List Bool, RowOf w 4 1 v L.length (L.map Value.bool) ∧ L.length ≤ 1000 ∧ ∀ j, f j = L.getD j false
theorem Bits.nil (w : World) : Bits w (.slice none 0 0) (fun _ => false) := ⟨[], RowOf.nil _ _ _, by simp, fun j => by simp⟩
theorem Bits.mod {S : Nat → Prop} {w w' : World} {v : Value} {f : Nat → Bool} (h : Bits w v f) (hm : Mod S w w') (hs : ∀ b, v.ownBlock = some b → ¬ S b) : Bits w' v f := by
  obtain ⟨L, hr, h1, h2⟩ := h
  exact ⟨L, hr.mod hm hs, h1, h2⟩
theorem Bits.quiet {w w' : World} {v : Value} {f : Nat → Bool} (h : Bits w v f) (hm : Mod (fun _ => False) w w') : Bits w' v f := h.mod hm (fun _ _ x => x)
theorem Bits.block {w : World} {v : Value} {f : Nat → Bool} (h : Bits w v f) {b : Nat} (hb : v.ownBlock = some b) : ∃ cs, w.heap[b]? = some (.cells cs 4 (0, 0)) := by
  obtain ⟨L, hr, _, _⟩ := h
  exact hr.block hb
theorem row_of_block {w : World} {X n size : Nat} {cur : Array Value} {t : TypeId} {xs : List Value} (h : w.heap[X]? = some (.cells cur t (0, 0))) (hs : cur.size = n * size) (hx : ∀ j, j < n * size → cur[j]? = xs[j]?) (hl : xs.length = n * size) (hn : n ≤ maxLen) : RowOf w t size (.slice (some ⟨X, 0, none⟩) n n) n xs :=
  ⟨hl, .inr ⟨X, 0, n, cur, rfl, h, Nat.le_refl _, hn, by omega, fun j hj => by rw [Nat.zero_add]; exact hx j hj⟩⟩
set_option maxHeartbeats 1000000 in
theorem rhas_any (v : Value) (f : Nat → Bool) (i : Nat) (w : World) (h : Bits w v f) : Calls Try.prog 35 #[v, .int .i64 i] w fun e w' => e = .returned (.bool (f i)) ∧ w = w' := by
  obtain ⟨L, hr, hl, hf⟩ := h
  obtain ⟨A, c, rfl⟩ := RowOf.form hr
  have t0 : decide ((0 : Int) ≤ (i : Int)) = true := decide_eq_true (by omega)
  by_cases hlt : i < L.length
  · obtain ⟨b, o, cap, cur, e, hb, _, hc⟩ := hr.at (by omega)
    cases e
    have k0 : w.cell? ⟨b, o + i, none⟩ = some (.bool (f i)) := by
      rw [RowOf.cell hr i (by omega), hf i, List.getElem?_map, List.getD_eq_getElem?_getD, List.getElem?_eq_getElem hlt]
      rfl
    have t1 : decide (i < L.length) = true := decide_eq_true hlt
    have hi0 : (0 : Int) ≤ (i : Int) := by omega
    have hi1 : (i : Int) < (L.length : Int) := by omega
    generalize f i = y at *
    clear hr hf hb hc hlt
    go_enter Try.func35, Try.ntmps35
    go_wp2
    go_ret
    exact ⟨rfl, rfl⟩
  · have t1 : decide (i < L.length) = false := decide_eq_false hlt
    have hy : f i = false := by rw [hf i, List.getD_eq_getElem?_getD, List.getElem?_eq_none (by omega)]; rfl
    rw [hy]
    clear hr hf hlt hy
    go_enter Try.func35, Try.ntmps35
    go_wp2
    go_ret
    exact ⟨rfl, rfl⟩
theorem info_bool : (Try.prog.info? 4).map (fun i => (i.zero, i.size, i.bytes)) = some (some (.bool false), 1, 1) := by kernel_rfl
theorem mk_bools (n : Nat) (hn : n ≤ 1000) (w : World) : (Instr.makeSlice 55 (.int .i64 n) (.int .i64 n)).run Try.prog w = .ok (.slice (some ⟨w.heap.size, 0, none⟩) n n) (w.alloc (.cells (madeCells #[.bool false] n) 4)) := by
  obtain ⟨i0, hii, hz0, hz1, hz2⟩ := info_parts info_bool
  have h := run_makeSlice (P := Try.prog) w 55 4 i0 _ Try.underlying55 hii hz0 .i64 .i64 n n (by omega) (by omega) (by rw [hz1]; omega) (by rw [hz2]; omega) (by omega)
  rw [hz1, Int.toNat_natCast, Nat.mul_one] at h
  exact h
/-- While a row is filled. -/
structure BothRel (w : World) (N : Nat) (F : Nat → Bool) (k : Nat) (wr : World) : Prop where
  row : ∃ cur, wr.heap[w.heap.size]? = some (.cells cur 4 (0, 0)) ∧ cur.size = N ∧ ∀ j, j < k → cur[j]? = some (.bool (F j))
  mod : Mod (fun _ => False) w wr
theorem BothRel.step {w wr : World} {N k : Nat} {F : Nat → Bool} (h : BothRel w N F k wr) (hk : k < N) : BothRel w N F (k + 1) (wr.setCell ⟨w.heap.size, k, none⟩ (.bool (F k))) := by
  obtain ⟨⟨cur, hb, hs, hc⟩, hm⟩ := h
  refine ⟨⟨_, blk_set hb k _, by simpa using hs, fun j hj => ?_⟩, hm.set (p := ⟨w.heap.size, k, none⟩) (fun x => absurd x (Nat.lt_irrefl _)) _⟩
  by_cases hjk : k = j
  · subst hjk
    rw [Array.getElem?_setIfInBounds, if_pos rfl, if_pos (by omega)]
  · rw [Array.getElem?_setIfInBounds, if_neg hjk]
    exact hc j (by omega)
theorem BothRel.done {w wr : World} {N : Nat} {F : Nat → Bool} (h : BothRel w N F N wr) (hN : N ≤ 1000) (hF : ∀ j, N ≤ j → F j = false) : Bits wr (.slice (some ⟨w.heap.size, 0, none⟩) N N) F := by
  obtain ⟨⟨cur, hb, hs, hc⟩, hm⟩ := h
  refine ⟨(List.range N).map F, ?_, by simpa using hN, fun j => ?_⟩
  · have := row_of_block (size := 1) (xs := ((List.range N).map F).map Value.bool) (n := N) hb (by omega) (fun j hj => ?_) (by simp) (by unfold maxLen; omega)
    · simpa using this
    · rw [hc j (by omega), List.getElem?_map, List.getElem?_map, List.getElem?_range (by omega)]
      rfl
  · by_cases hj : j < N
    · rw [List.getD_eq_getElem?_getD, List.getElem?_map, List.getElem?_range hj]; rfl
    · rw [List.getD_eq_getElem?_getD, List.getElem?_eq_none (by simp; omega)]; exact hF j (by omega)
end Go.Proofs.Yteicceikaecfcaa
