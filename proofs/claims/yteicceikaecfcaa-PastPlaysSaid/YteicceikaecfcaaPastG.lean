/-
  Package past: New.
-/
import Derived.Test.YteicceikaecfcaaPastF
import Derived.Laws.OwnMore
import Derived.Deep.DeepCutAuto
namespace Go.Proofs.Yteicceikaecfcaa
open Go.RowKit Go.Shoal Go.Maps

theorem info_map : (Try.prog.info? 71).map (fun i => (i.zero, i.size, i.bytes)) = some (some (.map none), 1, 8) := by kernel_rfl
theorem info_u64 : (Try.prog.info? 30).map (fun i => (i.zero, i.size, i.bytes)) = some (some (.int .u64 0), 1, 8) := by kernel_rfl
theorem info_ids : (Try.prog.info? 28).map (fun i => (i.zero, i.size, i.bytes)) = some (some (.slice none 0 0), 1, 24) := by kernel_rfl
theorem mk_knows (n : Nat) (hn : n ≤ 16) (w : World) : (Instr.makeSlice 63 (.int .i64 n) (.int .i64 n)).run Try.prog w = .ok (.slice (some ⟨w.heap.size, 0, none⟩) n n) (w.alloc (.cells (madeCells #[.map none] n) 71)) := by
  obtain ⟨i0, hii, hz0, hz1, hz2⟩ := info_parts info_map
  have h := run_makeSlice (P := Try.prog) w 63 71 i0 _ Try.underlying63 hii hz0 .i64 .i64 n n (by omega) (by omega) (by rw [hz1]; omega) (by rw [hz2]; omega) (by omega)
  rw [hz1, Int.toNat_natCast, Nat.mul_one] at h
  exact h
theorem mk_count (n : Nat) (hn : n ≤ 16) (w : World) : (Instr.makeSlice 64 (.int .i64 n) (.int .i64 n)).run Try.prog w = .ok (.slice (some ⟨w.heap.size, 0, none⟩) n n) (w.alloc (.cells (madeCells #[.int .u64 0] n) 30)) := by
  obtain ⟨i0, hii, hz0, hz1, hz2⟩ := info_parts info_u64
  have h := run_makeSlice (P := Try.prog) w 64 30 i0 _ Try.underlying64 hii hz0 .i64 .i64 n n (by omega) (by omega) (by rw [hz1]; omega) (by rw [hz2]; omega) (by omega)
  rw [hz1, Int.toNat_natCast, Nat.mul_one] at h
  exact h
theorem mk_taken (n : Nat) (hn : n ≤ 16) (w : World) : (Instr.makeSlice 65 (.int .i64 n) (.int .i64 n)).run Try.prog w = .ok (.slice (some ⟨w.heap.size, 0, none⟩) n n) (w.alloc (.cells (madeCells #[.slice none 0 0] n) 28)) := by
  obtain ⟨i0, hii, hz0, hz1, hz2⟩ := info_parts info_ids
  have h := run_makeSlice (P := Try.prog) w 65 28 i0 _ Try.underlying65 hii hz0 .i64 .i64 n n (by omega) (by omega) (by rw [hz1]; omega) (by rw [hz2]; omega) (by omega)
  rw [hz1, Int.toNat_natCast, Nat.mul_one] at h
  exact h
theorem new_past_no (n : Int) (w : World) (h : n < 1 ∨ 16 < n) : Calls Try.prog 9 #[.int .i64 n] w fun e w' => e = .returned (.tuple #[.pointer none, .int .i64 1]) ∧ w = w' := by
  by_cases h1 : n < 1
  · clear h
    go_enter Try.func9, Try.ntmps9
    go_wp2
    go_ret2
    exact ⟨rfl, rfl⟩
  have h2 : 16 < n := by omega
  clear h
  go_enter Try.func9, Try.ntmps9
  go_wp2
  go_ret2
  exact ⟨rfl, rfl⟩
theorem five_new (w : World) (a b c d e : Obj) : (((((w.alloc a).alloc b).alloc c).alloc d).alloc e).drew.heap[w.heap.size]? = some a ∧ (((((w.alloc a).alloc b).alloc c).alloc d).alloc e).drew.heap[w.heap.size + 1]? = some b ∧
    (((((w.alloc a).alloc b).alloc c).alloc d).alloc e).drew.heap[w.heap.size + 1 + 1]? = some c ∧ (((((w.alloc a).alloc b).alloc c).alloc d).alloc e).drew.heap[w.heap.size + 1 + 1 + 1]? = some d ∧
    (((((w.alloc a).alloc b).alloc c).alloc d).alloc e).drew.heap[w.heap.size + 1 + 1 + 1 + 1]? = some e := by
  have s1 : (w.alloc a).heap.size = w.heap.size + 1 := by simp
  have s2 : ((w.alloc a).alloc b).heap.size = w.heap.size + 1 + 1 := by simp
  have s3 : (((w.alloc a).alloc b).alloc c).heap.size = w.heap.size + 1 + 1 + 1 := by simp
  have s4 : ((((w.alloc a).alloc b).alloc c).alloc d).heap.size = w.heap.size + 1 + 1 + 1 + 1 := by simp
  have h1 := blk_new w a
  have h2 := blk_new (w.alloc a) b
  have h3 := blk_new ((w.alloc a).alloc b) c
  have h4 := blk_new (((w.alloc a).alloc b).alloc c) d
  have h5 := blk_new ((((w.alloc a).alloc b).alloc c).alloc d) e
  rw [s1] at h2
  rw [s2] at h3
  rw [s3] at h4
  rw [s4] at h5
  exact ⟨blk_alloc (blk_alloc (blk_alloc (blk_alloc h1 _) _) _) _, blk_alloc (blk_alloc (blk_alloc h2 _) _) _, blk_alloc (blk_alloc h3 _) _, blk_alloc h4 _, h5⟩
/-- What New has laid ahead of its loop. -/
def Born (w : World) (n : Nat) (p : Value) (wx : World) : Prop :=
  ∃ B kB cB tB hB, p = .pointer (some ⟨B, 0, none⟩) ∧ wx.heap[B]? = some (.cells #[.slice none 0 0, .slice (some ⟨kB, 0, none⟩) n n, .slice (some ⟨cB, 0, none⟩) n n, .slice (some ⟨tB, 0, none⟩) n n, .map (some hB)] 69 (0, 0)) ∧
    wx.heap[kB]? = some (.cells (madeCells #[.map none] n) 71 (0, 0)) ∧ wx.heap[cB]? = some (.cells (madeCells #[.int .u64 0] n) 30 (0, 0)) ∧ wx.heap[tB]? = some (.cells (madeCells #[.slice none 0 0] n) 28 (0, 0)) ∧
    wx.heap[hB]? = some (.map #[] 0) ∧ (w.heap.size ≤ B ∧ w.heap.size ≤ kB ∧ w.heap.size ≤ cB ∧ w.heap.size ≤ tB ∧ w.heap.size ≤ hB) ∧ Mod (fun _ => False) w wx
theorem words_empty {w : World} {b : Nat} (h : w.heap[b]? = some (.map #[] 0)) : HadAt w b (fun _ => 0) :=
  ⟨.map [], ⟨#[], 0, h, ⟨by simp, MapKept.stamped_empty 0, by simp⟩, Nat.zero_le _, rfl⟩, fun kl h => (by cases h), fun _ => rfl⟩
/-- While New lays the sets. -/
structure NewRel (w : World) (n B kB cB tB hB k : Nat) (cur : Array Value) (kb : Nat → Nat) (wr : World) : Prop where
  top : wr.heap[B]? = some (.cells #[.slice none 0 0, .slice (some ⟨kB, 0, none⟩) n n, .slice (some ⟨cB, 0, none⟩) n n, .slice (some ⟨tB, 0, none⟩) n n, .map (some hB)] 69 (0, 0))
  krow : wr.heap[kB]? = some (.cells cur 71 (0, 0))
  crow : wr.heap[cB]? = some (.cells (madeCells #[.int .u64 0] n) 30 (0, 0))
  trow : wr.heap[tB]? = some (.cells (madeCells #[.slice none 0 0] n) 28 (0, 0))
  had : HadAt wr hB (fun _ => 0)
  bs : w.heap.size ≤ B ∧ w.heap.size ≤ kB ∧ w.heap.size ≤ cB ∧ w.heap.size ≤ tB ∧ w.heap.size ≤ hB
  size : cur.size = n
  sets : ∀ i, i < k → cur[i]? = some (.map (some (kb i))) ∧ w.heap.size ≤ kb i ∧ SetsAt wr (kb i) (fun _ => false) ∧ hB ≠ kb i
  inj : ∀ i j, i < k → j < k → kb i = kb j → i = j
  md : Mod (fun _ => False) w wr
theorem NewRel.step {w wr : World} {n B kB cB tB hB k : Nat} {cur : Array Value} {kb : Nat → Nat} (h : NewRel w n B kB cB tB hB k cur kb wr) (hk : k < n) :
    NewRel w n B kB cB tB hB (k + 1) (cur.setIfInBounds k (.map (some wr.heap.size))) (fun i => if i = k then wr.heap.size else kb i) ((wr.alloc (.map #[] 0)).setCell ⟨kB, k, none⟩ (.map (some wr.heap.size))) := by
  have hz := h.had.lt_size
  have hkz := blk_lt h.krow
  obtain ⟨es, c, hmap⟩ := h.had.isMap
  have hne : hB ≠ kB := fun e => by rw [e, h.krow] at hmap; cases hmap
  have hmd : Mod (· = kB) wr ((wr.alloc (.map #[] 0)).setCell ⟨kB, k, none⟩ (.map (some wr.heap.size))) := ((Mod.refl (· = kB) wr).alloc _).set (p := ⟨kB, k, none⟩) (fun _ => rfl) _
  refine ⟨hmd.blk h.top (blk_ne h.top h.krow (by decide)), blk_set (blk_alloc h.krow _) k _, hmd.blk h.crow (blk_ne h.crow h.krow (by decide)), hmd.blk h.trow (blk_ne h.trow h.krow (by decide)), h.had.mod hmd hne, h.bs, by simp [h.size], fun i hi => ?_, fun i j hi hj e => ?_, ?_⟩
  · by_cases hik : i = k
    · subst hik
      simp only [if_true]
      refine ⟨by rw [Array.getElem?_setIfInBounds, if_pos rfl, h.size, if_pos hk], h.md.size, ?_, by omega⟩
      exact SetAt.keep (SetAt.made _ _ _ wr) (Below.heap_setCell _ _ _ _ (by show wr.heap.size ≠ kB; omega))
    · simp only [if_neg hik]
      obtain ⟨j1, j2, j3, j4⟩ := h.sets i (by omega)
      refine ⟨by rw [Array.getElem?_setIfInBounds, if_neg (by omega)]; exact j1, j2, j3.mod hmd (fun e => ?_), j4⟩
      obtain ⟨es, c, hm⟩ := j3.isMap
      rw [show kb i = kB from e, h.krow] at hm
      cases hm
  · by_cases hik : i = k <;> by_cases hjk : j = k
    · omega
    · simp only [if_pos hik, if_neg hjk] at e
      have := (h.sets j (by omega)).2.2.1.lt_size
      omega
    · simp only [if_neg hik, if_pos hjk] at e
      have := (h.sets i (by omega)).2.2.1.lt_size
      omega
    · simp only [if_neg hik, if_neg hjk] at e
      exact h.inj i j (by omega) (by omega) e
  · exact (h.md.alloc _).set (p := ⟨kB, k, none⟩) (fun hlt => by have h2 : kB < w.heap.size := hlt; have := h.bs.2.1; omega) _
theorem madeCells_at (v : Value) (n i : Nat) (h : i < n) : (madeCells #[v] n)[i]? = some v := by
  unfold madeCells
  rw [Array.getElem?_map, Array.getElem?_range, if_pos h]
  simp [Nat.mod_one]
theorem made_row (v : Value) (n : Nat) : madeCells #[v] n = ((List.range n).map fun _ => v).toArray := by
  apply Array.ext_getElem?
  intro i
  by_cases h : i < n
  · rw [madeCells_at v n i h, row_at (fun _ => v) h]
  · rw [Array.getElem?_eq_none (by rw [size_madeCells]; omega), Array.getElem?_eq_none (by simp; omega)]
/-- Nothing was sent. -/
def Pa.born (n kB cB tB hB : Nat) (kb : Nat → Nat) : Pa := ⟨n, [], fun _ _ => false, kb, fun _ => 0, fun _ => [], fun _ => .slice none 0 0, .slice none 0 0, kB, cB, tB, hB⟩
theorem inSet_zero (p : Int) : inSet 0 p = false := by
  unfold inSet
  simp
theorem NewRel.done {w wr : World} {n B kB cB tB hB : Nat} {cur : Array Value} {kb : Nat → Nat} (h : NewRel w n B kB cB tB hB n cur kb wr) (h1 : 1 ≤ n) (h2 : n ≤ 16) : PastAt wr B (Pa.born n kB cB tB hB kb) := by
  have e1 : cur = ((List.range n).map fun q => Value.map (some (kb q))).toArray := by
    apply Array.ext_getElem?
    intro i
    by_cases hi : i < n
    · rw [(h.sets i hi).1, row_at (fun q => Value.map (some (kb q))) hi]
    · rw [Array.getElem?_eq_none (by rw [h.size]; omega), Array.getElem?_eq_none (by simp; omega)]
  refine ⟨h.top, RowOf.nil _ _ _, h.krow.trans (by rw [e1]; rfl), h.crow.trans (by rw [made_row]; rfl), h.trow.trans (by rw [made_row]; rfl), h.had, fun q hq => (h.sets q hq).2.2.1, fun m hm => (by cases hm), fun q hq => RowOf.nil _ _ _, ?_, ?_⟩
  · exact ⟨h1, h2, Nat.zero_le _, fun m hm => (by cases hm), fun m hm => (by cases hm), fun k m hk => (by cases hk), fun k m j hk => (by cases hk), fun q k hk => (by cases hk), fun q k m j hk => (by cases hk), fun i k m m' j hi => (by cases hi),
      fun q k hk => (by cases hk), fun q => List.Pairwise.nil, fun q k m hk => (by cases hk), fun k => (by show 0 < 18446744073709551616; decide), fun k q hq => inSet_zero _⟩
  · exact ⟨fun q r hq hr e => h.inj q r hq hr e, fun i j m m' hi => (by cases hi), fun q m hq hm => (by cases hm), fun q hq => (h.sets q hq).2.2.2, fun m hm => (by cases hm), fun q r b hq hr hb => (by cases hb)⟩
/-- What New gives. -/
def Newed (w : World) (n : Nat) (e : Ending) (w' : World) : Prop :=
  ∃ B kB cB tB hB kb, e = .returned (.tuple #[.pointer (some ⟨B, 0, none⟩), .int .i64 0]) ∧ PastAt w' B (Pa.born n kB cB tB hB kb) ∧ (∀ b, Foot B (Pa.born n kB cB tB hB kb) b → w.heap.size ≤ b) ∧ Mod (fun _ => False) w w'
theorem NewRel.newed {w wr : World} {n B kB cB tB hB : Nat} {cur : Array Value} {kb : Nat → Nat} (h : NewRel w n B kB cB tB hB n cur kb wr) (h1 : 1 ≤ n) (h2 : n ≤ 16) : Newed w n (.returned (.tuple #[.pointer (some ⟨B, 0, none⟩), .int .i64 0])) wr := by
  refine ⟨B, kB, cB, tB, hB, kb, rfl, h.done h1 h2, fun b hb => ?_, h.md⟩
  obtain ⟨g1, g2, g3, g4, g5⟩ := h.bs
  rcases hb with rfl | hb | rfl | rfl | rfl | rfl | ⟨q, hq, rfl⟩ | ⟨m, hm, rfl⟩ | ⟨q, hq, hb⟩
  · exact g1
  · cases hb
  · exact g2
  · exact g3
  · exact g4
  · exact g5
  · exact (h.sets q hq).2.1
  · cases hm
  · cases hb
set_option maxRecDepth 100000 in
set_option maxHeartbeats 4000000 in
theorem new_past (n : Nat) (w : World) (h1 : 1 ≤ n) (h2 : n ≤ 16) :
    Calls Try.prog 9 #[.int .i64 n] w (Newed w n) := by
  have hk := mk_knows n h2
  have hc := mk_count n h2
  have ht := mk_taken n h2
  have hmm := @run_makeMap Try.prog
  have t1 : decide ((n : Int) < 1) = false := decide_eq_false (by omega)
  have t2 : decide (16 < (n : Int)) = false := decide_eq_false (by omega)
  go_enter Try.func9, Try.ntmps9
  go_upto_region 3 with fail
  go_cut [4] (fun s4 wx => Hid (Born w n s4 wx))
  case first =>
    go_region_held3 (fun w' => w.heap.size ≤ w'.heap.size) (first | assumption | (simp; done) | (simp; omega)) (first | fail)
    all_goals go_wp2_with fail
    all_goals go_meet
    all_goals exact ⟨_, _, _, _, _, rfl, by first | exact (five_new w _ _ _ _ _).1 | exact (five_new w _ _ _ _ _).2.1 | exact (five_new w _ _ _ _ _).2.2.1 | exact (five_new w _ _ _ _ _).2.2.2.1 | exact (five_new w _ _ _ _ _).2.2.2.2, by first | exact (five_new w _ _ _ _ _).1 | exact (five_new w _ _ _ _ _).2.1 | exact (five_new w _ _ _ _ _).2.2.1 | exact (five_new w _ _ _ _ _).2.2.2.1 | exact (five_new w _ _ _ _ _).2.2.2.2, by first | exact (five_new w _ _ _ _ _).1 | exact (five_new w _ _ _ _ _).2.1 | exact (five_new w _ _ _ _ _).2.2.1 | exact (five_new w _ _ _ _ _).2.2.2.1 | exact (five_new w _ _ _ _ _).2.2.2.2, by first | exact (five_new w _ _ _ _ _).1 | exact (five_new w _ _ _ _ _).2.1 | exact (five_new w _ _ _ _ _).2.2.1 | exact (five_new w _ _ _ _ _).2.2.2.1 | exact (five_new w _ _ _ _ _).2.2.2.2, by first | exact (five_new w _ _ _ _ _).1 | exact (five_new w _ _ _ _ _).2.1 | exact (five_new w _ _ _ _ _).2.2.1 | exact (five_new w _ _ _ _ _).2.2.2.1 | exact (five_new w _ _ _ _ _).2.2.2.2, ⟨by omega, by omega, by omega, by omega, by omega⟩, ((((((Mod.refl _ _).alloc _).alloc _).alloc _).alloc _).alloc _).drew⟩
  case rest =>
    obtain ⟨B, kB, cB, tB, hB, rfl, b1, b2, b3, b4, b5, b6, b7⟩ := hcut.out
    have c1 := (blk_cell b1 1).trans rfl
    have H0 : Hid (NewRel w n B kB cB tB hB 0 (madeCells #[.map none] n) (fun _ => 0) _) :=
      ⟨b1, b2, b3, b4, words_empty b5, b6, size_madeCells _ _, fun i hi => (by omega), fun i j hi => (by omega), b7⟩
    clear b1 b2 b3 b4 b5 b6 b7 hk hc ht hcut
    go_wp2
    go_loopw [26] (fun i wr => ∃ k : Nat, k ≤ n ∧ i = .int .i64 k ∧ Hid (∃ cur kb, NewRel w n B kB cB tB hB k cur kb wr)) (fun i _ => n - (intOf i).toNat)
    case atStart => exact ⟨0, Nat.zero_le _, rfl, _, _, H0⟩
    case round =>
      obtain ⟨k, hkn, rfl, hR⟩ := hrel
      by_cases hlt : k < n
      · obtain ⟨cur, kb, hR'⟩ := hR.out
        have d1 := (blk_cell hR'.top 1).trans rfl
        have dk : ∃ y, wr.cell? ⟨kB, k, none⟩ = some y := ⟨_, (blk_cell hR'.krow k).trans (Array.getElem?_eq_getElem (by rw [hR'.size]; omega))⟩
        obtain ⟨y, dk⟩ := dk
        have fk := blk_frozen hR'.krow k
        have hkz := blk_lt hR'.krow
        have hBz := blk_lt hR'.top
        have hne : kB ≠ wr.heap.size := by omega
        have hi0 : (0 : Int) ≤ (k : Int) := by omega
        have hi1 : (k : Int) < (n : Int) := by omega
        have hS := hR'.step hlt
        rw [World.setCell_alloc_past _ _ _ _ hkz] at hS
        have HS := Lib.hid hS
        clear hS
        clear hR' hR c1
        go_wp2
        go_roundw
        case rel => exact ⟨k + 1, by omega, by go_num, _, _, HS.out⟩
        case measure => simp [intOf]; omega
      · obtain rfl : k = n := by omega
        obtain ⟨cur, kb, hR'⟩ := hR.out
        have HE := Lib.hid (hR'.newed h1 h2)
        clear hR' hR c1
        go_wp2
        go_ret2
        exact HE.out
end Go.Proofs.Yteicceikaecfcaa
