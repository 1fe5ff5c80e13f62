/-
  Package post: New.
-/
import Derived.Test.YtmpeijlfflfkbaaPostC
import Derived.Deep.DrawnRows
import Derived.RegionTactic
import Derived.Deep.OwnRows
namespace Go.Proofs.Ytmpeijlfflfkbaa
open Go.RowKit Go.Shoal Go.Conc

theorem info_chan_I : (Try.prog.info? 57).map (fun i => (i.zero, i.size, i.bytes)) = some (some (.chan none), 1, 8) := by kernel_rfl
theorem bytes_I : ∃ i, Try.prog.info? 3 = some i ∧ i.bytes = 8 := by
  have h : (Try.prog.info? 3).map (·.bytes) = some 8 := by kernel_rfl
  obtain ⟨i, hi, hb⟩ := Option.map_eq_some_iff.1 h
  exact ⟨i, hi, hb⟩
theorem mkchan_I (room : Nat) (h : room ≤ 64) (w : World) : (Instr.makeChan 57 (.int .i64 room)).run Try.prog w = .ok (.chan (some w.heap.size)) (w.alloc (.chan room #[] false 0 0 false)) := by
  obtain ⟨i, hi, hb⟩ := bytes_I
  simpa using run_makeChan (P := Try.prog) (w := w) Try.underlying57 hi .i64 room (by omega) (by rw [hb]; omega)
theorem mkrow_I (n : Nat) (hn : n ≤ 16) (w : World) : (Instr.makeSlice 54 (.int .i64 n) (.int .i64 n)).run Try.prog w = .ok (.slice (some ⟨w.heap.size, 0, none⟩) n n) (w.alloc (.cells (madeCells #[.chan none] n) 57)) := by
  obtain ⟨i0, hii, hz0, hz1, hz2⟩ := info_parts info_chan_I
  have h := run_makeSlice (P := Try.prog) w 54 57 i0 _ Try.underlying54 hii hz0 .i64 .i64 n n (by omega) (by omega) (by rw [hz1]; omega) (by rw [hz2]; omega) (by omega)
  rw [hz1, Int.toNat_natCast, Nat.mul_one] at h
  exact h
/-- While New runs. -/
def NewRelI (w : World) (n room k : Nat) (wr : World) : Prop :=
  ∃ (cells : Array Value) (c : Nat → Nat), wr.heap[w.heap.size + 1]? = some (.cells #[.slice (some ⟨w.heap.size, 0, none⟩) n n] 56 (0, 0)) ∧ wr.heap[w.heap.size]? = some (.cells cells 57 (0, 0)) ∧ cells.size = n ∧
    (∀ i, i < k → cells[i]? = some (.chan (some (c i))) ∧ w.heap.size ≤ c i ∧ wr.heap[c i]? = some (.chan room #[] false 0 0 false)) ∧ (∀ i j, i < k → j < k → c i = c j → i = j) ∧ Below w.heap.size w wr
theorem NewRelI.step {w wr : World} {n room k : Nat} (h : NewRelI w n room k wr) (hk : k < n) : NewRelI w n room (k + 1) ((wr.setCell ⟨w.heap.size, k, none⟩ (.chan (some wr.heap.size))).alloc (.chan room #[] false 0 0 false)).drew := by
  obtain ⟨cells, c, h1, h2, h3, h4, h5, h6⟩ := h
  have e1 : w.heap.size + 1 < wr.heap.size := blk_lt h1
  have hz : (wr.setCell ⟨w.heap.size, k, none⟩ (.chan (some wr.heap.size))).heap.size = wr.heap.size := by simp [World.setCell]
  have hB : Below w.heap.size w ((wr.setCell ⟨w.heap.size, k, none⟩ (.chan (some wr.heap.size))).alloc (.chan room #[] false 0 0 false)).drew := ((h6.setCell (by simp) _).alloc (by rw [hz]; omega) _).drew
  refine ⟨cells.setIfInBounds k (.chan (some wr.heap.size)), fun i => if i = k then wr.heap.size else c i, blk_alloc (blk_far h1 (by simp) _) _, blk_alloc (blk_set h2 k _) _, by simp [h3], fun i hi => ?_, fun i j hi hj e => ?_, hB⟩
  · by_cases hik : i = k
    · subst hik
      rw [Array.getElem?_setIfInBounds, if_pos rfl, h3, if_pos hk]
      simp only [if_true]
      refine ⟨trivial, by omega, ?_⟩
      have hn := blk_new (wr.setCell ⟨w.heap.size, i, none⟩ (.chan (some wr.heap.size))) (.chan room #[] false 0 0 false)
      rw [hz] at hn
      exact hn
    · simp only [if_neg hik]
      obtain ⟨j1, j2, j3⟩ := h4 i (by omega)
      rw [Array.getElem?_setIfInBounds, if_neg (by omega)]
      exact ⟨j1, j2, blk_alloc (blk_far j3 (fun e => by rw [show c i = w.heap.size from e, h2] at j3; cases j3) _) _⟩
  · by_cases hik : i = k <;> by_cases hjk : j = k
    · omega
    · simp only [if_pos hik, if_neg hjk] at e
      have := blk_lt (h4 j (by omega)).2.2
      omega
    · simp only [if_neg hik, if_pos hjk] at e
      have := blk_lt (h4 i (by omega)).2.2
      omega
    · simp only [if_neg hik, if_neg hjk] at e
      exact h5 i j (by omega) (by omega) e

theorem NewRelI.start (n room : Nat) (w : World) : NewRelI w n room 0 ((w.alloc (.cells (madeCells #[.chan none] n) 57)).alloc (.cells #[.slice (some ⟨w.heap.size, 0, none⟩) n n] 56)) :=
  ⟨madeCells #[.chan none] n, fun _ => 0, by rw [← show (w.alloc (.cells (madeCells #[.chan none] n) 57)).heap.size = w.heap.size + 1 by simp]; exact blk_new _ _, blk_alloc (blk_new w _) _, by simp [madeCells], fun i hi => by omega, fun i j hi => by omega, ((Below.refl _ _).alloc (Nat.le_refl _) _).alloc (by simp) _⟩
theorem NewRelI.done {w wr : World} {n room : Nat} (h : NewRelI w n room n wr) : BoxesI w.heap.size wr (w.heap.size + 1) n room (fun _ => []) := by
  obtain ⟨cells, c, h1, h2, h3, h4, h5, h6⟩ := h
  exact ⟨w.heap.size, c, Nat.le_succ _, Nat.le_refl _, h1, ⟨cells, h2, fun i hi => (h4 i hi).1⟩, fun i hi => ⟨(h4 i hi).2.1, 0, 0, (h4 i hi).2.2⟩, h5⟩
/-- What New gives. -/
def MadeI (w : World) (n room : Nat) (e : Ending) (w' : World) : Prop := e = .returned (.tuple #[.pointer (some ⟨w.heap.size + 1, 0, none⟩), .int .i64 0]) ∧ BoxesI w.heap.size w' (w.heap.size + 1) n room (fun _ => []) ∧ Below w.heap.size w w'
set_option maxHeartbeats 1000000 in
theorem new_no_I (n room : Int) (w : World) (h : n < 1 ∨ 16 < n ∨ room < 1 ∨ 64 < room) :
    Calls Try.prog 8 #[.int .i64 n, .int .i64 room] w fun e w' => e = .returned (.tuple #[.pointer none, .int .i64 1]) ∧ w = w' := by
  by_cases h1 : n < 1
  · clear h
    go_enter Try.func8, Try.ntmps8
    go_wp2
    go_ret2
    exact ⟨rfl, rfl⟩
  by_cases h2 : 16 < n
  · clear h
    go_enter Try.func8, Try.ntmps8
    go_wp2
    go_ret2
    exact ⟨rfl, rfl⟩
  by_cases h3 : room < 1
  · clear h
    go_enter Try.func8, Try.ntmps8
    go_wp2
    go_ret2
    exact ⟨rfl, rfl⟩
  have h4 : 64 < room := by omega
  clear h
  go_enter Try.func8, Try.ntmps8
  go_wp2
  go_ret2
  exact ⟨rfl, rfl⟩
set_option maxHeartbeats 1000000 in
theorem new_ok_I (n room : Nat) (w : World) (h1 : 1 ≤ n) (h2 : n ≤ 16) (h3 : 1 ≤ room) (h4 : room ≤ 64) :
    Calls Try.prog 8 #[.int .i64 n, .int .i64 room] w (MadeI w n room) := by
  have hmk := mkchan_I room h4
  have hrow := mkrow_I n h2
  have t1 : decide ((n : Int) < 1) = false := decide_eq_false (by omega)
  have t2 : decide (16 < (n : Int)) = false := decide_eq_false (by omega)
  have t3 : decide ((room : Int) < 1) = false := decide_eq_false (by omega)
  have t4 : decide (64 < (room : Int)) = false := decide_eq_false (by omega)
  have H0 := Lib.hid (NewRelI.start n room w)
  go_enter Try.func8, Try.ntmps8
  go_wp2
  go_loopw [31] (fun i wr => ∃ k : Nat, k ≤ n ∧ i = .int .i64 k ∧ Hid (NewRelI w n room k wr)) (fun i _ => n - (intOf i).toNat)
  case atStart => exact ⟨0, Nat.zero_le _, rfl, H0⟩
  case round =>
    obtain ⟨k, hk, rfl, hR⟩ := hrel
    by_cases hlt : k < n
    · obtain ⟨cells, c, g1, g2, g3, g4, g5, g6⟩ := hR.out
      have c0 := (blk_cell g1 0).trans rfl
      have ck : ∃ y, wr.cell? ⟨w.heap.size, k, none⟩ = some y := ⟨_, (blk_cell g2 k).trans (Array.getElem?_eq_getElem (by omega))⟩
      obtain ⟨y, ck⟩ := ck
      have fk := blk_frozen g2 k
      have HL : Hid (w.heap.size < wr.heap.size) := blk_lt g2
      have hi : (k : Int) < n := by omega
      have hi0 : (0 : Int) ≤ (k : Int) := by omega
      have hlt1 := HL.out
      have hlt2 : w.heap.size + 1 < wr.heap.size := blk_lt g1
      have HK := Lib.hid (hR.out.step hlt)
      clear g1 g2 g3 g4 g5 g6
      go_wp2
      go_region
      all_goals go_wp2
      all_goals go_roundw
      case rel => exact ⟨k + 1, by omega, by go_num, HK⟩
      case measure => simp [intOf]; omega
    · obtain rfl : k = n := by omega
      have hi : decide ((k : Int) < k) = false := decide_eq_false (by omega)
      have HD := Lib.hid hR.out.done
      have HB : Hid (Below w.heap.size w wr) := by obtain ⟨_, _, _, _, _, _, _, h⟩ := hR.out; exact h
      go_wp2
      go_ret2
      exact ⟨rfl, HD.out, HB.out⟩

theorem info_chan_S : (Try.prog.info? 62).map (fun i => (i.zero, i.size, i.bytes)) = some (some (.chan none), 1, 8) := by kernel_rfl
theorem bytes_S : ∃ i, Try.prog.info? 9 = some i ∧ i.bytes = 16 := by
  have h : (Try.prog.info? 9).map (·.bytes) = some 16 := by kernel_rfl
  obtain ⟨i, hi, hb⟩ := Option.map_eq_some_iff.1 h
  exact ⟨i, hi, hb⟩
theorem mkchan_S (room : Nat) (h : room ≤ 64) (w : World) : (Instr.makeChan 62 (.int .i64 room)).run Try.prog w = .ok (.chan (some w.heap.size)) (w.alloc (.chan room #[] false 0 0 false)) := by
  obtain ⟨i, hi, hb⟩ := bytes_S
  simpa using run_makeChan (P := Try.prog) (w := w) Try.underlying62 hi .i64 room (by omega) (by rw [hb]; omega)
theorem mkrow_S (n : Nat) (hn : n ≤ 16) (w : World) : (Instr.makeSlice 59 (.int .i64 n) (.int .i64 n)).run Try.prog w = .ok (.slice (some ⟨w.heap.size, 0, none⟩) n n) (w.alloc (.cells (madeCells #[.chan none] n) 62)) := by
  obtain ⟨i0, hii, hz0, hz1, hz2⟩ := info_parts info_chan_S
  have h := run_makeSlice (P := Try.prog) w 59 62 i0 _ Try.underlying59 hii hz0 .i64 .i64 n n (by omega) (by omega) (by rw [hz1]; omega) (by rw [hz2]; omega) (by omega)
  rw [hz1, Int.toNat_natCast, Nat.mul_one] at h
  exact h
/-- While New runs. -/
def NewRelS (w : World) (n room k : Nat) (wr : World) : Prop :=
  ∃ (cells : Array Value) (c : Nat → Nat), wr.heap[w.heap.size + 1]? = some (.cells #[.slice (some ⟨w.heap.size, 0, none⟩) n n] 61 (0, 0)) ∧ wr.heap[w.heap.size]? = some (.cells cells 62 (0, 0)) ∧ cells.size = n ∧
    (∀ i, i < k → cells[i]? = some (.chan (some (c i))) ∧ w.heap.size ≤ c i ∧ wr.heap[c i]? = some (.chan room #[] false 0 0 false)) ∧ (∀ i j, i < k → j < k → c i = c j → i = j) ∧ Below w.heap.size w wr
theorem NewRelS.step {w wr : World} {n room k : Nat} (h : NewRelS w n room k wr) (hk : k < n) : NewRelS w n room (k + 1) ((wr.setCell ⟨w.heap.size, k, none⟩ (.chan (some wr.heap.size))).alloc (.chan room #[] false 0 0 false)).drew := by
  obtain ⟨cells, c, h1, h2, h3, h4, h5, h6⟩ := h
  have e1 : w.heap.size + 1 < wr.heap.size := blk_lt h1
  have hz : (wr.setCell ⟨w.heap.size, k, none⟩ (.chan (some wr.heap.size))).heap.size = wr.heap.size := by simp [World.setCell]
  have hB : Below w.heap.size w ((wr.setCell ⟨w.heap.size, k, none⟩ (.chan (some wr.heap.size))).alloc (.chan room #[] false 0 0 false)).drew := ((h6.setCell (by simp) _).alloc (by rw [hz]; omega) _).drew
  refine ⟨cells.setIfInBounds k (.chan (some wr.heap.size)), fun i => if i = k then wr.heap.size else c i, blk_alloc (blk_far h1 (by simp) _) _, blk_alloc (blk_set h2 k _) _, by simp [h3], fun i hi => ?_, fun i j hi hj e => ?_, hB⟩
  · by_cases hik : i = k
    · subst hik
      rw [Array.getElem?_setIfInBounds, if_pos rfl, h3, if_pos hk]
      simp only [if_true]
      refine ⟨trivial, by omega, ?_⟩
      have hn := blk_new (wr.setCell ⟨w.heap.size, i, none⟩ (.chan (some wr.heap.size))) (.chan room #[] false 0 0 false)
      rw [hz] at hn
      exact hn
    · simp only [if_neg hik]
      obtain ⟨j1, j2, j3⟩ := h4 i (by omega)
      rw [Array.getElem?_setIfInBounds, if_neg (by omega)]
      exact ⟨j1, j2, blk_alloc (blk_far j3 (fun e => by rw [show c i = w.heap.size from e, h2] at j3; cases j3) _) _⟩
  · by_cases hik : i = k <;> by_cases hjk : j = k
    · omega
    · simp only [if_pos hik, if_neg hjk] at e
      have := blk_lt (h4 j (by omega)).2.2
      omega
    · simp only [if_neg hik, if_pos hjk] at e
      have := blk_lt (h4 i (by omega)).2.2
      omega
    · simp only [if_neg hik, if_neg hjk] at e
      exact h5 i j (by omega) (by omega) e

theorem NewRelS.start (n room : Nat) (w : World) : NewRelS w n room 0 ((w.alloc (.cells (madeCells #[.chan none] n) 62)).alloc (.cells #[.slice (some ⟨w.heap.size, 0, none⟩) n n] 61)) :=
  ⟨madeCells #[.chan none] n, fun _ => 0, by rw [← show (w.alloc (.cells (madeCells #[.chan none] n) 62)).heap.size = w.heap.size + 1 by simp]; exact blk_new _ _, blk_alloc (blk_new w _) _, by simp [madeCells], fun i hi => by omega, fun i j hi => by omega, ((Below.refl _ _).alloc (Nat.le_refl _) _).alloc (by simp) _⟩
theorem NewRelS.done {w wr : World} {n room : Nat} (h : NewRelS w n room n wr) : BoxesS w.heap.size wr (w.heap.size + 1) n room (fun _ => []) := by
  obtain ⟨cells, c, h1, h2, h3, h4, h5, h6⟩ := h
  exact ⟨w.heap.size, c, Nat.le_succ _, Nat.le_refl _, h1, ⟨cells, h2, fun i hi => (h4 i hi).1⟩, fun i hi => ⟨(h4 i hi).2.1, 0, 0, (h4 i hi).2.2⟩, h5⟩
/-- What New gives. -/
def MadeS (w : World) (n room : Nat) (e : Ending) (w' : World) : Prop := e = .returned (.tuple #[.pointer (some ⟨w.heap.size + 1, 0, none⟩), .int .i64 0]) ∧ BoxesS w.heap.size w' (w.heap.size + 1) n room (fun _ => []) ∧ Below w.heap.size w w'
set_option maxHeartbeats 1000000 in
theorem new_no_S (n room : Int) (w : World) (h : n < 1 ∨ 16 < n ∨ room < 1 ∨ 64 < room) :
    Calls Try.prog 13 #[.int .i64 n, .int .i64 room] w fun e w' => e = .returned (.tuple #[.pointer none, .int .i64 1]) ∧ w = w' := by
  by_cases h1 : n < 1
  · clear h
    go_enter Try.func13, Try.ntmps13
    go_wp2
    go_ret2
    exact ⟨rfl, rfl⟩
  by_cases h2 : 16 < n
  · clear h
    go_enter Try.func13, Try.ntmps13
    go_wp2
    go_ret2
    exact ⟨rfl, rfl⟩
  by_cases h3 : room < 1
  · clear h
    go_enter Try.func13, Try.ntmps13
    go_wp2
    go_ret2
    exact ⟨rfl, rfl⟩
  have h4 : 64 < room := by omega
  clear h
  go_enter Try.func13, Try.ntmps13
  go_wp2
  go_ret2
  exact ⟨rfl, rfl⟩
set_option maxHeartbeats 1000000 in
theorem new_ok_S (n room : Nat) (w : World) (h1 : 1 ≤ n) (h2 : n ≤ 16) (h3 : 1 ≤ room) (h4 : room ≤ 64) :
    Calls Try.prog 13 #[.int .i64 n, .int .i64 room] w (MadeS w n room) := by
  have hmk := mkchan_S room h4
  have hrow := mkrow_S n h2
  have t1 : decide ((n : Int) < 1) = false := decide_eq_false (by omega)
  have t2 : decide (16 < (n : Int)) = false := decide_eq_false (by omega)
  have t3 : decide ((room : Int) < 1) = false := decide_eq_false (by omega)
  have t4 : decide (64 < (room : Int)) = false := decide_eq_false (by omega)
  have H0 := Lib.hid (NewRelS.start n room w)
  go_enter Try.func13, Try.ntmps13
  go_wp2
  go_loopw [31] (fun i wr => ∃ k : Nat, k ≤ n ∧ i = .int .i64 k ∧ Hid (NewRelS w n room k wr)) (fun i _ => n - (intOf i).toNat)
  case atStart => exact ⟨0, Nat.zero_le _, rfl, H0⟩
  case round =>
    obtain ⟨k, hk, rfl, hR⟩ := hrel
    by_cases hlt : k < n
    · obtain ⟨cells, c, g1, g2, g3, g4, g5, g6⟩ := hR.out
      have c0 := (blk_cell g1 0).trans rfl
      have ck : ∃ y, wr.cell? ⟨w.heap.size, k, none⟩ = some y := ⟨_, (blk_cell g2 k).trans (Array.getElem?_eq_getElem (by omega))⟩
      obtain ⟨y, ck⟩ := ck
      have fk := blk_frozen g2 k
      have HL : Hid (w.heap.size < wr.heap.size) := blk_lt g2
      have hi : (k : Int) < n := by omega
      have hi0 : (0 : Int) ≤ (k : Int) := by omega
      have hlt1 := HL.out
      have hlt2 : w.heap.size + 1 < wr.heap.size := blk_lt g1
      have HK := Lib.hid (hR.out.step hlt)
      clear g1 g2 g3 g4 g5 g6
      go_wp2
      go_region
      all_goals go_wp2
      all_goals go_roundw
      case rel => exact ⟨k + 1, by omega, by go_num, HK⟩
      case measure => simp [intOf]; omega
    · obtain rfl : k = n := by omega
      have hi : decide ((k : Int) < k) = false := decide_eq_false (by omega)
      have HD := Lib.hid hR.out.done
      have HB : Hid (Below w.heap.size w wr) := by obtain ⟨_, _, _, _, _, _, _, h⟩ := hR.out; exact h
      go_wp2
      go_ret2
      exact ⟨rfl, HD.out, HB.out⟩

end Go.Proofs.Ytmpeijlfflfkbaa
