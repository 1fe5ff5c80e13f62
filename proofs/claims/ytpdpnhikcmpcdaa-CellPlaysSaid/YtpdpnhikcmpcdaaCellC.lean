/-
  Repeat.
-/
import Derived.Test.YtpdpnhikcmpcdaaCellB
import Derived.Deep.RegionHeld3
import Derived.IntWalk
namespace Go.Proofs.Ytpdpnhikcmpcdaa
open Go.RowKit Go.Shoal

theorem mul_one (n : Nat) (hn : n ≤ 1000) (w : World) : Calls Try.prog 37 #[.int .u64 1, .int .u64 n] w fun e w' => e = .returned (.tuple #[.int .u64 0, .int .u64 n]) ∧ w = w' := by
  refine (mul_any 1 n (by omega) (by omega) w).mono ?_
  rintro e w' ⟨rfl, rfl⟩
  rw [Nat.one_mul, Nat.div_eq_of_lt (by omega), Nat.mod_eq_of_lt (by omega)]
  exact ⟨rfl, rfl⟩
theorem zeros_size (n : Nat) : (madeCells #[.float .f64 0, .int .i64 0, .int .u64 0] (n * 3)).size = n * 3 := size_madeCells _ _
theorem reps_len (m : Nat) : ((List.replicate m vl0).flatMap Vl.cells).length = m * 3 := by
  rw [flat_len Vl.len, List.length_replicate]
theorem reps_one (m : Nat) : ∀ u ∈ (List.replicate m vl0).flatMap Vl.cells, u.oneCell' = true := by
  intro u hu
  obtain ⟨v, hv, hu⟩ := List.mem_flatMap.1 hu
  rw [(List.mem_replicate.1 hv).2] at hu
  simp only [Vl.cells, List.mem_cons, List.not_mem_nil, or_false] at hu
  rcases hu with rfl | rfl | rfl <;> rfl
theorem reps_get {m q : Nat} {u : Value} (h : ((List.replicate m vl0).flatMap Vl.cells)[q]? = some u) : q < m * 3 ∧ vl0.cells[q % 3]? = some u := by
  have hl := (List.getElem?_eq_some_iff.1 h).1
  rw [reps_len] at hl
  refine ⟨hl, ?_⟩
  have e : q = q / 3 * 3 + q % 3 := by omega
  rw [e, flat_at Vl.len _ (q / 3) (q % 3) vl0 (by rw [List.getElem?_replicate, if_pos (by omega)]) (by omega)] at h
  exact h
set_option maxHeartbeats 2000000 in
theorem repeat_any (g n : Nat) (w : World) (hg : w.heap[g]? = some (.cells #[.float .f64 0, .int .i64 (-1), .int .u64 0] 35 (0, 0))) (hn : n ≤ 1000) :
    Calls Try.prog 26 #[.slice (some ⟨g, 0, none⟩) 1 1, .int .i64 n] w (Repeated w n) := by
  obtain ⟨i0, hii, hz0, hz1, hz2⟩ := info_parts Try.infoVal
  have hsz : (Try.prog.info? 35).map (·.size) = some 3 := by rw [hii]; simp [hz1]
  have hmk : ∀ w : World, (Instr.makeSlice 69 (.int .i64 (n : Int)) (.int .i64 (n : Int))).run Try.prog w = .ok (.slice (some ⟨w.heap.size, 0, none⟩) n n) (w.alloc (.cells (madeCells #[.float .f64 0, .int .i64 0, .int .u64 0] (n * 3)) 35)) := fun w => by
    have h := run_makeSlice (P := Try.prog) w 69 35 i0 _ Try.underlying69 hii hz0 .i64 .i64 n n (by omega) (by omega) (by rw [hz1]; omega) (by rw [hz2]; omega) (by omega)
    rw [hz1] at h
    simp only [Int.toNat_natCast] at h
    exact h
  have HM := Lib.hid (mul_one n hn w)
  have HZ := Lib.hid (zeros_size n)
  generalize madeCells #[.float .f64 0, .int .i64 0, .int .u64 0] (n * 3) = zz at hmk HZ
  have HG := Lib.hid hg
  have HS := Lib.hid hsz
  have hn0 : (0 : Int) ≤ n := by omega
  have hn1 : (n : Int) ≤ 1000 := by omega
  clear hg hsz
  go_enter Try.func26, Try.ntmps26
  go_wp2_with fail
  refine HM.out.mono ?_
  rintro e w1 ⟨rfl, rfl⟩
  have HR0 : Hid ((w.alloc (.cells zz 35)).heap[w.heap.size]? = some (.cells zz 35 (0, 0))) := blk_new w _
  have HG1 : Hid ((w.alloc (.cells zz 35)).heap[g]? = some (.cells #[.float .f64 0, .int .i64 (-1), .int .u64 0] 35 (0, 0))) := blk_alloc HG.out _
  obtain ⟨m0, hm0⟩ : ∃ m0, m0 = min 1 n := ⟨_, rfl⟩
  have HM0 := Lib.hid hm0
  have HPOS : Hid (∀ j u, ((List.replicate m0 vl0).flatMap Vl.cells)[j]? = some u → (w.alloc (.cells zz 35)).cell? ((⟨g, 0, none⟩ : Addr).add j) = some u) := fun j u hu => by
    obtain ⟨h1, h2⟩ := reps_get hu
    rw [Nat.mod_eq_of_lt (by omega)] at h2
    rw [Addr.add_lit, Nat.zero_add, blk_cell HG1.out]
    show vl0.cells.toArray[j]? = some u
    simpa using h2
  have HFIT : Hid (0 + ((List.replicate m0 vl0).flatMap Vl.cells).length ≤ zz.size) := by
    show _ ≤ _
    rw [reps_len, HZ.out]
    omega
  clear hm0
  go_wp2_with (refine wpList_copy_to (by rfl) (.tmp 31) (.tmp 32) 69 69 (by rfl) 35 Try.underlying69 3 HS.out _ _ _ _ _ _ (by rfl) (by rfl) w.heap.size 0 zz 35 HR0.out ((List.replicate m0 vl0).flatMap Vl.cells) m0 HM0.out (reps_len m0) (fun _ => ⟨rfl, _, rfl, HPOS.out⟩) HFIT.out (reps_one m0) ?_)
  intro w1 hw1 hmd1
  have HREL : Hid (RepRel w w.heap.size n m0 w1) := by
    have := HM0.out
    have h := RepRel.step (w0 := w) (wr := w.alloc (.cells zz 35)) (k := 0) (m := m0) (cur := zz) (n := n) (r := w.heap.size) HZ.out (fun i j hi _ => absurd hi (Nat.not_lt_zero i)) ((Mod.refl _ _).alloc _) (by omega) (by rw [Nat.zero_mul]; exact hw1) hmd1
    rwa [Nat.zero_add] at h
  have HP : Hid (n ≠ 0 → 0 < m0) := fun h => by have := HM0.out; omega
  clear hw1 hmd1 HR0 HG1 HM0 HM HG
  go_wp2
  go_loopw [8] (fun v wr => ∃ k : Nat, v = .int .i64 k ∧ (n ≠ 0 → 0 < k) ∧ Hid (RepRel w w.heap.size n k wr)) (fun v _ => n - (intOf v).toNat)
  case atStart => exact ⟨m0, rfl, HP.out, HREL⟩
  case round =>
    obtain ⟨k, rfl, hk0, hR⟩ := hrel
    have hkn := hR.out.1
    by_cases hlt : k < n
    · have hk1 : 0 < k := hk0 (by omega)
      obtain ⟨_, cur, q1, q2, q3, q4⟩ := hR.out
      have Q1 := Lib.hid q1
      have Q3 := Lib.hid q3
      clear q1 q3 hk0
      have hi0 : (0 : Int) ≤ (k : Int) := by omega
      have hi1 : (k : Int) < (n : Int) := by omega
      have hi2 : (k : Int) ≤ (n : Int) := by omega
      have hne : ¬ n = k := by omega
      obtain ⟨m, hm⟩ : ∃ m, m = min k (n - k) := ⟨_, rfl⟩
      have HM := Lib.hid hm
      have hm1 : k + m ≤ n := by omega
      have hm2 : 0 < m := by omega
      have HM' : Hid (m = Nat.min k (n - k)) := hm
      have HPOS : Hid (∀ j u, ((List.replicate m vl0).flatMap Vl.cells)[j]? = some u → wr.drew.cell? ((⟨w.heap.size, 0, none⟩ : Addr).add j) = some u) := fun j u hu => by
        obtain ⟨h1, h2⟩ := reps_get hu
        have h3 := Q3.out (j / 3) (j % 3) (by omega) (by omega)
        rw [show j / 3 * 3 + j % 3 = j by omega] at h3
        rw [Addr.add_lit, Nat.zero_add, World.cell?_drew, blk_cell Q1.out, h3]
        exact h2
      have HFIT : Hid (k * 3 + ((List.replicate m vl0).flatMap Vl.cells).length ≤ cur.size) := by
        show _ ≤ _
        rw [reps_len, q2]
        omega
      have Q1' : Hid (wr.drew.heap[w.heap.size]? = some (.cells cur 35 (0, 0))) := Q1.out
      have Q2 := Lib.hid q2
      have Q4 := Lib.hid q4
      clear hm q2 q4
      go_wp2
      go_region_held3 (fun w' => wr.heap.size ≤ w'.heap.size) (first | assumption | exact Nat.le_refl _ | exact hm2.size) (first | (refine step_copy_to (by rfl) (.tmp 41) (.tmp 44) 69 69 (by rfl) 35 Try.underlying69 3 HS.out _ _ _ _ _ _ (by rfl) (by rfl) w.heap.size (k * 3) cur 35 Q1'.out ((List.replicate m vl0).flatMap Vl.cells) m HM'.out (reps_len m) (fun _ => ⟨rfl, _, rfl, HPOS.out⟩) HFIT.out (reps_one m) ?_; intro w2 hw2 hm2))
      have HN := Lib.hid (RepRel.step (m := m) (wr := wr.drew) Q2.out Q3.out Q4.out.drew hm1 hw2 hm2)
      have HWR : Hid (IntKind.i64.wrap ((k : Int) + (m : Int)) = ((k + m : Nat) : Int)) := by
        show _ = _
        rw [IntWalk.i64_in _ (by omega)]
        omega
      clear hw2 hm2
      go_wp2
      go_roundw
      case rel => exact ⟨k + m, by rw [← HWR.out], fun _ => by omega, HN⟩
      case measure => rw [HWR.out]; simp [intOf]; omega
    · obtain rfl : k = n := by omega
      obtain ⟨_, cur, q1, q2, q3, q4⟩ := hR.out
      have HC : Hid (Repeated w k (.returned (.slice (some ⟨w.heap.size, 0, none⟩) k k)) wr) := by
        refine ⟨_, rfl, ?_, Nat.le_refl _, q4.mono fun i hi e => by omega⟩
        have e1 : cur.toList = (List.replicate k vl0).flatMap Vl.cells := flat_same Vl.len (by decide) vl0 k cur.toList (by rw [Array.length_toList]; exact q2) (fun i j hi hj => by rw [Array.getElem?_toList]; exact q3 i j hi hj)
        rw [← e1]
        exact q1
      clear q1 q2 q3 q4 hk0 hkn hlt
      go_wp2
      go_ret
      exact HC.out
end Go.Proofs.Ytpdpnhikcmpcdaa
