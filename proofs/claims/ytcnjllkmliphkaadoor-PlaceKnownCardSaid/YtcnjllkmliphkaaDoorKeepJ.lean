/-
  PlaceKnown: rows of settings in one block.
-/
import Derived.Test.YtcnjllkmliphkaaDoorKeepB
namespace Go.Proofs.YtcnjllkmliphkaaDoor
open Go.RowKit Go.Shoal

/-- A block of twelve rows of eight. -/
def Rowed (W : World) (B : Nat) (rows : Nat → Array Value) : Prop :=
  ∃ cs, W.heap[B]? = some (.cells cs 26 (0, 0)) ∧ cs.size = 96 ∧ ∀ j, j < 12 → (rows j).size = 8 ∧ ∀ i, i < 8 → cs[j * 8 + i]? = (rows j)[i]?
def upd (rows : Nat → Array Value) (j i : Nat) (v : Value) : Nat → Array Value := fun k => if k = j then (rows k).setIfInBounds i v else rows k
theorem Rowed.mod {S : Nat → Prop} {W W' : World} {B : Nat} {rows : Nat → Array Value} (h : Rowed W B rows) (hm : Mod S W W') (hs : ¬ S B) : Rowed W' B rows := by
  obtain ⟨cs, h1, h2⟩ := h
  exact ⟨cs, hm.blk h1 hs, h2⟩
theorem Rowed.set {W : World} {B : Nat} {rows : Nat → Array Value} (h : Rowed W B rows) (j i : Nat) (hj : j < 12) (hi : i < 8) (v : Value) : Rowed (W.setCell ⟨B, j * 8 + i, none⟩ v) B (upd rows j i v) := by
  obtain ⟨cs, h1, h2, h3⟩ := h
  refine ⟨_, blk_set h1 _ v, by simp [h2], fun j' hj' => ?_⟩
  obtain ⟨k1, k2⟩ := h3 j' hj'
  unfold upd
  by_cases hjj : j' = j
  · subst hjj
    rw [if_pos rfl]
    refine ⟨by simp [k1], fun i' hi' => ?_⟩
    rw [Array.getElem?_setIfInBounds, Array.getElem?_setIfInBounds, k2 i' hi', h2, k1]
    by_cases hii : i = i'
    · subst hii; simp [hi]; omega
    · rw [if_neg (by omega), if_neg hii]
  · rw [if_neg hjj]
    refine ⟨k1, fun i' hi' => ?_⟩
    rw [Array.getElem?_setIfInBounds, if_neg (by omega)]
    exact k2 i' hi'
theorem Rowed.cell {W : World} {B : Nat} {rows : Nat → Array Value} (h : Rowed W B rows) (j i : Nat) (hj : j < 12) (hi : i < 8) : W.cell? ⟨B, j * 8 + i, none⟩ = (rows j)[i]? := by
  obtain ⟨cs, h1, h2, h3⟩ := h
  rw [blk_cell h1, (h3 j hj).2 i hi]
theorem Rowed.frozen {W : World} {B : Nat} {rows : Nat → Array Value} (h : Rowed W B rows) (o : Nat) : W.frozen? ⟨B, o, none⟩ = false := by
  obtain ⟨cs, h1, _⟩ := h
  exact blk_frozen h1 o
theorem Rowed.ext {W : World} {B : Nat} {rows rows' : Nat → Array Value} (h : Rowed W B rows) (he : ∀ j, j < 12 → rows j = rows' j) : Rowed W B rows' := by
  obtain ⟨cs, h1, h2, h3⟩ := h
  exact ⟨cs, h1, h2, fun j hj => by rw [← he j hj]; exact h3 j hj⟩
/-- The row of plain settings, and the empty one. -/
def rowOf (n : Int) (v : Value) (wi q f m b e : Int) : Array Value := #[.int .i64 n, v, .int .i64 wi, .int .i64 q, .int .i64 f, .int .i64 m, .int .i64 b, .int .i64 e]
def setAt (g : Nat) : Value := .slice (some ⟨g, 0, none⟩) 1 1
/-- A block of one set. -/
def SetBlk (W : World) (g s : Nat) : Prop := W.heap[g]? = some (.cells #[.int .u64 (s : Int)] 29 (0, 0))
def plainS (n : Int) : Nat := if n ≤ 64 then allOf n else 0
set_option maxHeartbeats 1000000 in
/-- What Plain hands back: a new block. -/
theorem plain_new (n e : Int) (w : World) : Calls Tryd.prog 7 #[.int .i64 n, .int .i64 e] w fun d w' => ∃ g, d = .returned (.agg (rowOf n (setAt g) 2 3 2 8 64 e)) ∧ SetBlk w' g (plainS n) ∧ w.heap.size ≤ g ∧ Mod (fun _ => False) w w' := by
  by_cases h : n ≤ 64
  · have HA := Lib.hid (all_any n)
    have HP : Hid (plainS n = allOf n) := by show _ = _; unfold plainS; rw [if_pos h]
    generalize allOf n = a at HA HP
    go_enter Tryd.func7, Tryd.ntmps7
    go_wp2_with fail
    refine (HA.out _).mono ?_
    rintro e w1 ⟨rfl, rfl⟩
    go_wp2
    refine bodyPost_ret (v := .agg #[.int .i64 n, .slice (some ⟨w.heap.size + 1, 0, none⟩) 1 1, .int .i64 2, .int .i64 3, .int .i64 2, .int .i64 8, .int .i64 64, .int .i64 e]) (by simp [results, Tryd.results7, go_sem]) rfl ?_
    refine ⟨w.heap.size + 1, rfl, ?_, by omega, ((Mod.refl _ _).alloc _).alloc _⟩
    rw [HP.out]
    have h := blk_new (w.alloc (.cells #[.int .i64 n, .slice (some ⟨w.heap.size + 1, 0, none⟩) 1 1, .int .i64 2, .int .i64 3, .int .i64 2, .int .i64 8, .int .i64 64, .int .i64 e] 26)) (.cells #[.int .u64 (a : Int)] 29)
    rw [World.size_alloc] at h
    exact h
  · have HP : Hid (plainS n = 0) := by show _ = _; unfold plainS; rw [if_neg h]
    go_enter Tryd.func7, Tryd.ntmps7
    go_wp2
    refine bodyPost_ret (v := .agg #[.int .i64 n, .slice (some ⟨w.heap.size + 1, 0, none⟩) 1 1, .int .i64 2, .int .i64 3, .int .i64 2, .int .i64 8, .int .i64 64, .int .i64 e]) (by simp [results, Tryd.results7, go_sem]) rfl ?_
    refine ⟨w.heap.size + 1, rfl, ?_, by omega, ((Mod.refl _ _).alloc _).alloc _⟩
    rw [HP.out]
    have h := blk_new (w.alloc (.cells #[.int .i64 n, .slice (some ⟨w.heap.size + 1, 0, none⟩) 1 1, .int .i64 2, .int .i64 3, .int .i64 2, .int .i64 8, .int .i64 64, .int .i64 e] 26)) (.cells #[.int .u64 0] 29)
    rw [World.size_alloc] at h
    exact h

theorem info_cfg : (Tryd.prog.info? 26).map (fun i => (i.zero, i.size, i.bytes)) = some (some (.agg (rowOf 0 (.slice none 0 0) 0 0 0 0 0 0)), 8, 80) := by kernel_rfl
theorem info_set : (Tryd.prog.info? 29).map (fun i => (i.zero, i.size, i.bytes)) = some (some (.int .u64 0), 1, 8) := by kernel_rfl
def zeroRow : Array Value := rowOf 0 (.slice none 0 0) 0 0 0 0 0 0
theorem make_cfg (w : World) : (Instr.makeSlice 23 (.int .i64 12) (.int .i64 12)).run Tryd.prog w = .ok (.slice (some ⟨w.heap.size, 0, none⟩) 12 12) (w.alloc (.cells (madeCells zeroRow 96) 26)) := by
  obtain ⟨i0, hii, hz0, hz1, hz2⟩ := info_parts info_cfg
  have h := run_makeSlice (P := Tryd.prog) w 23 26 i0 _ Tryd.underlying23 hii hz0 .i64 .i64 12 12 (by decide) (by decide) (by rw [hz1]; decide) (by rw [hz2]; decide) (by decide)
  rw [hz1] at h
  exact h
theorem make_set (n : Nat) (hn : n ≤ 17) (w : World) : (Instr.makeSlice 24 (.int .i64 n) (.int .i64 n)).run Tryd.prog w = .ok (.slice (some ⟨w.heap.size, 0, none⟩) n n) (w.alloc (.cells (madeCells #[.int .u64 0] n) 29)) := by
  obtain ⟨i0, hii, hz0, hz1, hz2⟩ := info_parts info_set
  have h := run_makeSlice (P := Tryd.prog) w 24 29 i0 _ Tryd.underlying24 hii hz0 .i64 .i64 n n (by omega) (by omega) (by rw [hz1]; omega) (by rw [hz2]; omega) (by omega)
  rw [hz1, Int.toNat_natCast, Nat.mul_one] at h
  exact h
theorem made_get (z : Array Value) (n k : Nat) (hk : k < n) (hz : 0 < z.size) : (madeCells z n)[k]? = z[k % z.size]? := by
  have : k % z.size < z.size := Nat.mod_lt _ hz
  simp [madeCells, hk, this]
theorem Rowed.zero (w : World) : Rowed (w.alloc (.cells (madeCells zeroRow 96) 26)) w.heap.size (fun _ => zeroRow) := by
  refine ⟨_, blk_new _ _, size_madeCells _ _, fun j hj => ⟨rfl, fun i hi => ?_⟩⟩
  rw [made_get _ _ _ (by omega) (by decide)]
  congr 1
  show (j * 8 + i) % 8 = i
  omega
def plainRows (k : Nat) (gs : Nat → Nat) : Nat → Array Value := fun j => if j < k then rowOf 3 (setAt (gs j)) 2 3 2 8 64 1 else zeroRow
/-- Loop one. -/
def KnownA (w : World) (B k : Nat) (gs : Nat → Nat) (wr : World) : Prop := Rowed wr B (plainRows k gs) ∧ (∀ j, j < k → SetBlk wr (gs j) 7 ∧ B < gs j) ∧ Mod (fun _ => False) w wr ∧ w.heap.size ≤ B ∧ B < wr.heap.size
theorem KnownA.step {w wr w1 : World} {B k g : Nat} {gs : Nat → Nat} (h : KnownA w B k gs wr) (hk : k < 12) (hm : Mod (fun _ => False) wr w1) (hs : SetBlk w1 g 7) (hg : wr.heap.size ≤ g) :
    KnownA w B (k + 1) (fun j => if j = k then g else gs j) ((((((((w1.setCell ⟨B, k * 8, none⟩ (.int .i64 3)).setCell ⟨B, k * 8 + 1, none⟩ (setAt g)).setCell ⟨B, k * 8 + 2, none⟩ (.int .i64 2)).setCell ⟨B, k * 8 + 3, none⟩ (.int .i64 3)).setCell ⟨B, k * 8 + 4, none⟩ (.int .i64 2)).setCell ⟨B, k * 8 + 5, none⟩ (.int .i64 8)).setCell ⟨B, k * 8 + 6, none⟩ (.int .i64 64)).setCell ⟨B, k * 8 + 7, none⟩ (.int .i64 1)) := by
  obtain ⟨h1, h2, h3, h4, h5⟩ := h
  have hB := h1.mod hm (fun x => x)
  have hm8 : ∀ x : World, Mod (fun i => i = B) w1 x → ∀ o v, Mod (fun i => i = B) w1 (x.setCell ⟨B, o, none⟩ v) := fun x hx o v => hx.set (fun _ => rfl) _
  refine ⟨?_, fun j hj => ?_, ?_, h4, ?_⟩
  · refine Rowed.ext (((((((((hB.set k 0 hk (by decide) _).set k 1 hk (by decide) _).set k 2 hk (by decide) _).set k 3 hk (by decide) _).set k 4 hk (by decide) _).set k 5 hk (by decide) _).set k 6 hk (by decide) _).set k 7 hk (by decide) _)) (fun j hj => ?_)
    unfold upd plainRows
    by_cases hjk : j = k
    · subst hjk
      simp [zeroRow, rowOf]
    · simp only [if_neg hjk]
      by_cases hlt : j < k
      · rw [if_pos hlt, if_pos (by omega)]
      · rw [if_neg hlt, if_neg (by omega)]
  · have hne : ∀ i, i = B → i ≠ (if j = k then g else gs j) := fun i hi => by
      split
      · omega
      · have := (h2 j (by omega)).2; omega
    refine ⟨Mod.blk (S := fun i => i = B) (hm8 _ (hm8 _ (hm8 _ (hm8 _ (hm8 _ (hm8 _ (hm8 _ (hm8 _ (Mod.refl _ _) _ _) _ _) _ _) _ _) _ _) _ _) _ _) _ _) ?_ (fun e => hne _ e rfl), ?_⟩
    · by_cases hjk : j = k
      · simp only [if_pos hjk]; exact hs
      · simp only [if_neg hjk]; exact hm.blk (h2 j (by omega)).1 (fun x => x)
    · by_cases hjk : j = k
      · simp only [if_pos hjk]; omega
      · simp only [if_neg hjk]; exact (h2 j (by omega)).2
  · have hF : B < w.heap.size → False := by omega
    have hx : ∀ x : World, Mod (fun _ => False) w x → ∀ o v, Mod (fun _ => False) w (x.setCell ⟨B, o, none⟩ v) := fun x hx o v => hx.set hF _
    exact hx _ (hx _ (hx _ (hx _ (hx _ (hx _ (hx _ (hx _ (h3.trans hm) _ _) _ _) _ _) _ _) _ _) _ _) _ _) _ _
  · simp
    exact Nat.lt_of_lt_of_le h5 hm.size

/-- A block of sets. -/
theorem SetsIn.row {w : World} {g e c s n : Nat} {cs : Array Value} (hb : w.heap[g]? = some (.cells cs e (0, 0))) (hc : ∀ i, i < n → cs[i]? = some (.int .u64 (s : Int))) (hs : s < 18446744073709551616) (hn : n ≤ 100) :
    SetsIn w (.slice (some ⟨g, 0, none⟩) n c) (List.replicate n s) := by
  refine ⟨_, c, by simp, by unfold maxLen; simp; omega, .inr ⟨g, 0, rfl, blk_lt hb, fun i hi => ?_⟩, fun t ht => ?_⟩
  · simp at hi
    rw [blk_cell hb, Nat.zero_add, hc i hi]
    simp [List.getD_eq_getElem?_getD, hi]
  · obtain ⟨_, rfl⟩ := List.mem_replicate.1 ht
    exact hs
/-- Loop two. -/
def KnownB (w : World) (B : Nat) (W : World) : Prop := Mod (fun _ => False) w W ∧ ∃ rows, Rowed W B rows ∧ ∀ j, j < 12 → ∃ (c : Cf) (v : Value), rows j = c.cells v ∧ SetsIn W v c.vars ∧ c.good = false
theorem KnownB.mod {w W W' : World} {B : Nat} (h : KnownB w B W) (hm : Mod (fun _ => False) W W') : KnownB w B W' := by
  obtain ⟨h1, rows, h2, h3⟩ := h
  refine ⟨h1.trans hm, rows, h2.mod hm (fun x => x), fun j hj => ?_⟩
  obtain ⟨c, v, k1, k2, k3⟩ := h3 j hj
  exact ⟨c, v, k1, k2.mod hm (fun _ _ x => x), k3⟩
def s12 (B n : Nat) (wr : World) : World := ((((((((((((wr).setCell ⟨B, 0, none⟩ (.int .i64 17)).setCell ⟨B, 9, none⟩ (.slice (some ⟨n, 0, none⟩) 1 1)).setCell ⟨B, 17, none⟩ (.slice (some ⟨n + 1, 0, none⟩) 1 1)).setCell ⟨B, 26, none⟩ (.int .i64 0)).setCell ⟨B, 35, none⟩ (.int .i64 1)).setCell ⟨B, 44, none⟩ (.int .i64 9)).setCell ⟨B, 53, none⟩ (.int .i64 1001)).setCell ⟨B, 62, none⟩ (.int .i64 257)).setCell ⟨B, 71, none⟩ (.int .i64 3)).setCell ⟨B, 73, none⟩ (.slice (some ⟨n + 1 + 1, 0, none⟩) 17 17)).setCell ⟨B, 84, none⟩ (.int .i64 0)).setCell ⟨B, 88, none⟩ (.int .i64 0)
theorem s12_size (B n : Nat) (wr : World) : (s12 B n wr).heap.size = wr.heap.size := by unfold s12; simp
set_option maxHeartbeats 4000000 in
theorem KnownB.of {w wr : World} {B : Nat} {gs : Nat → Nat} (h : KnownA w B 12 gs wr) :
    KnownB w B ((((s12 B wr.heap.size wr).alloc (.cells (madeCells #[.int .u64 0] 1) 29)).alloc (.cells #[.int .u64 8] 29)).alloc (.cells (madeCells #[.int .u64 0] 17) 29)) := by
  obtain ⟨h1, h2, h3, h4, h5⟩ := h
  have hz := s12_size B wr.heap.size wr
  have hF : B < w.heap.size → False := by omega
  have hx : ∀ x : World, Mod (fun _ => False) w x → ∀ o v, Mod (fun _ => False) w (x.setCell ⟨B, o, none⟩ v) := fun x hx o v => hx.set hF _
  have hB : ∀ x : World, Mod (fun i => i = B) wr x → ∀ o v, Mod (fun i => i = B) wr (x.setCell ⟨B, o, none⟩ v) := fun x hx o v => hx.set (fun _ => rfl) _
  have m1 : Mod (fun _ => False) w (s12 B wr.heap.size wr) := hx _ (hx _ (hx _ (hx _ (hx _ (hx _ (hx _ (hx _ (hx _ (hx _ (hx _ (hx _ (h3) _ _) _ _) _ _) _ _) _ _) _ _) _ _) _ _) _ _) _ _) _ _) _ _
  have m2 : Mod (fun i => i = B) wr (s12 B wr.heap.size wr) := hB _ (hB _ (hB _ (hB _ (hB _ (hB _ (hB _ (hB _ (hB _ (hB _ (hB _ (hB _ (Mod.refl _ _) _ _) _ _) _ _) _ _) _ _) _ _) _ _) _ _) _ _) _ _) _ _) _ _
  have r0 : Rowed (s12 B wr.heap.size wr) B (upd (upd (upd (upd (upd (upd (upd (upd (upd (upd (upd (upd (plainRows 12 gs) 0 0 (.int .i64 17)) 1 1 (.slice (some ⟨wr.heap.size, 0, none⟩) 1 1)) 2 1 (.slice (some ⟨wr.heap.size + 1, 0, none⟩) 1 1)) 3 2 (.int .i64 0)) 4 3 (.int .i64 1)) 5 4 (.int .i64 9)) 6 5 (.int .i64 1001)) 7 6 (.int .i64 257)) 8 7 (.int .i64 3)) 9 1 (.slice (some ⟨wr.heap.size + 1 + 1, 0, none⟩) 17 17)) 10 4 (.int .i64 0)) 11 0 (.int .i64 0)) := ((((((((((((h1).set 0 0 (by decide) (by decide) _).set 1 1 (by decide) (by decide) _).set 2 1 (by decide) (by decide) _).set 3 2 (by decide) (by decide) _).set 4 3 (by decide) (by decide) _).set 5 4 (by decide) (by decide) _).set 6 5 (by decide) (by decide) _).set 7 6 (by decide) (by decide) _).set 8 7 (by decide) (by decide) _).set 9 1 (by decide) (by decide) _).set 10 4 (by decide) (by decide) _).set 11 0 (by decide) (by decide) _
  generalize s12 B wr.heap.size wr = W at hz m1 m2 r0 ⊢
  generalize ho1 : Obj.cells (madeCells #[.int .u64 0] 1) 29 = o1
  generalize ho2 : Obj.cells #[.int .u64 8] 29 = o2
  generalize ho3 : Obj.cells (madeCells #[.int .u64 0] 17) 29 = o3
  have b1 : (((W.alloc o1).alloc o2).alloc o3).heap[wr.heap.size]? = some o1 := by have := blk_alloc (blk_alloc (blk_new W o1) o2) o3; rw [hz] at this; exact this
  have b2 : (((W.alloc o1).alloc o2).alloc o3).heap[wr.heap.size + 1]? = some o2 := by have := blk_alloc (blk_new (W.alloc o1) o2) o3; rw [World.size_alloc, hz] at this; exact this
  have b3 : (((W.alloc o1).alloc o2).alloc o3).heap[wr.heap.size + 1 + 1]? = some o3 := by have := blk_new ((W.alloc o1).alloc o2) o3; rw [World.size_alloc, World.size_alloc, hz] at this; exact this
  have hs : ∀ j, j < 12 → SetsIn (((W.alloc o1).alloc o2).alloc o3) (setAt (gs j)) [7] := fun j hj => by
    obtain ⟨k1, k2⟩ := h2 j hj
    exact SetsIn.one (Mod.blk (((m2.alloc o1).alloc o2).alloc o3) k1 (fun e => by omega)) (by decide)
  subst ho1 ho2 ho3
  refine ⟨((m1.alloc _).alloc _).alloc _, _, ((r0.mod (S := fun _ => False) ((Mod.refl _ _).alloc _) (fun x => x)).mod (S := fun _ => False) ((Mod.refl _ _).alloc _) (fun x => x)).mod (S := fun _ => False) ((Mod.refl _ _).alloc _) (fun x => x), fun j hj => ?_⟩
  have hj' : j = 0 ∨ j = 1 ∨ j = 2 ∨ j = 3 ∨ j = 4 ∨ j = 5 ∨ j = 6 ∨ j = 7 ∨ j = 8 ∨ j = 9 ∨ j = 10 ∨ j = 11 := by omega
  rcases hj' with rfl | rfl | rfl | rfl | rfl | rfl | rfl | rfl | rfl | rfl | rfl | rfl
  · exact ⟨⟨17, [7], 2, 3, 2, 8, 64, 1⟩, setAt (gs 0), rfl, hs 0 (by decide), by decide +kernel⟩
  · exact ⟨⟨3, List.replicate 1 0, 2, 3, 2, 8, 64, 1⟩, .slice (some ⟨wr.heap.size, 0, none⟩) 1 1, rfl, SetsIn.row b1 (fun i hi => by rw [made_get _ _ _ hi (by decide)]; show (#[Value.int .u64 0] : Array Value)[i % 1]? = _; rw [Nat.mod_one]; rfl) (by decide) (by decide), by decide +kernel⟩
  · exact ⟨⟨3, [8], 2, 3, 2, 8, 64, 1⟩, .slice (some ⟨wr.heap.size + 1, 0, none⟩) 1 1, rfl, SetsIn.one b2 (by decide), by decide +kernel⟩
  · exact ⟨⟨3, [7], 0, 3, 2, 8, 64, 1⟩, setAt (gs 3), rfl, hs 3 (by decide), by decide +kernel⟩
  · exact ⟨⟨3, [7], 2, 1, 2, 8, 64, 1⟩, setAt (gs 4), rfl, hs 4 (by decide), by decide +kernel⟩
  · exact ⟨⟨3, [7], 2, 3, 9, 8, 64, 1⟩, setAt (gs 5), rfl, hs 5 (by decide), by decide +kernel⟩
  · exact ⟨⟨3, [7], 2, 3, 2, 1001, 64, 1⟩, setAt (gs 6), rfl, hs 6 (by decide), by decide +kernel⟩
  · exact ⟨⟨3, [7], 2, 3, 2, 8, 257, 1⟩, setAt (gs 7), rfl, hs 7 (by decide), by decide +kernel⟩
  · exact ⟨⟨3, [7], 2, 3, 2, 8, 64, 3⟩, setAt (gs 8), rfl, hs 8 (by decide), by decide +kernel⟩
  · exact ⟨⟨3, List.replicate 17 0, 2, 3, 2, 8, 64, 1⟩, .slice (some ⟨wr.heap.size + 1 + 1, 0, none⟩) 17 17, rfl, SetsIn.row b3 (fun i hi => by rw [made_get _ _ _ hi (by decide)]; show (#[Value.int .u64 0] : Array Value)[i % 1]? = _; rw [Nat.mod_one]; rfl) (by decide) (by decide), by decide +kernel⟩
  · exact ⟨⟨3, [7], 2, 3, 0, 8, 64, 1⟩, setAt (gs 10), rfl, hs 10 (by decide), by decide +kernel⟩
  · exact ⟨⟨0, [7], 2, 3, 2, 8, 64, 1⟩, setAt (gs 11), rfl, hs 11 (by decide), by decide +kernel⟩
theorem field_vars (a b c d e f g h : Value) (w : World) : (Instr.field 26 (.agg #[a, b, c, d, e, f, g, h]) 1).run Tryd.prog w = .ok b w := by kernel_rfl
theorem SetsIn.pair {w : World} {g a b e c : Nat} (hb : w.heap[g]? = some (.cells #[.int .u64 (a : Int), .int .u64 (b : Int)] e (0, 0))) (ha : a < 18446744073709551616) (hb' : b < 18446744073709551616) : SetsIn w (.slice (some ⟨g, 0, none⟩) 2 c) [a, b] := by
  refine ⟨_, c, rfl, by unfold maxLen; simp, .inr ⟨g, 0, rfl, blk_lt hb, fun i hi => ?_⟩, fun t ht => ?_⟩
  · rcases (show i = 0 ∨ i = 1 by simp at hi; omega) with rfl | rfl
    · exact (blk_cell hb 0).trans rfl
    · exact (blk_cell hb 1).trans rfl
  · rcases (show t = a ∨ t = b by simpa using ht) with rfl | rfl
    · exact ha
    · exact hb'
/-- The last line. -/
def KnownP (w : World) (D E g5 F : Nat) (W : World) : Prop := HeldC w D 4 [6, 8] 2 3 2 8 64 2 (.slice (some ⟨E, 0, none⟩) 2 2) W ∧ W.heap[F]? = some (.cells #[.int .i64 5, .slice (some ⟨g5, 0, none⟩) 1 1, .int .i64 2, .int .i64 3, .int .i64 2, .int .i64 8, .int .i64 64, .int .i64 9] 26 (0, 0)) ∧ SetBlk W g5 31 ∧ W.cell? ⟨F, 0, none⟩ = some (.int .i64 5) ∧ W.cell? ⟨F, 1, none⟩ = some (.slice (some ⟨g5, 0, none⟩) 1 1) ∧ W.cell? ⟨F, 2, none⟩ = some (.int .i64 2) ∧ W.cell? ⟨F, 3, none⟩ = some (.int .i64 3) ∧ W.cell? ⟨F, 4, none⟩ = some (.int .i64 2) ∧ W.cell? ⟨F, 5, none⟩ = some (.int .i64 8) ∧ W.cell? ⟨F, 6, none⟩ = some (.int .i64 64) ∧ W.cell? ⟨F, 7, none⟩ = some (.int .i64 9) ∧ W.cell? ⟨g5, 0, none⟩ = some (.int .u64 31)
theorem KnownP.of' {w : World} {D E g5 F : Nat} {W : World} (h : HeldC w D 4 [6, 8] 2 3 2 8 64 2 (.slice (some ⟨E, 0, none⟩) 2 2) W) (hF : W.heap[F]? = some (.cells #[.int .i64 5, .slice (some ⟨g5, 0, none⟩) 1 1, .int .i64 2, .int .i64 3, .int .i64 2, .int .i64 8, .int .i64 64, .int .i64 9] 26 (0, 0))) (hs : SetBlk W g5 31) : KnownP w D E g5 F W :=
  ⟨h, hF, hs, (blk_cell hF 0).trans rfl, (blk_cell hF 1).trans rfl, (blk_cell hF 2).trans rfl, (blk_cell hF 3).trans rfl, (blk_cell hF 4).trans rfl, (blk_cell hF 5).trans rfl, (blk_cell hF 6).trans rfl, (blk_cell hF 7).trans rfl, (blk_cell hs 0).trans rfl⟩
theorem KnownP.of {w : World} {D E g5 : Nat} {W : World} (h : HeldC w D 4 [6, 8] 2 3 2 8 64 2 (.slice (some ⟨E, 0, none⟩) 2 2) W) (hs : SetBlk W g5 31) : KnownP w D E g5 W.heap.size (W.alloc (.cells #[.int .i64 5, .slice (some ⟨g5, 0, none⟩) 1 1, .int .i64 2, .int .i64 3, .int .i64 2, .int .i64 8, .int .i64 64, .int .i64 9] 26)) :=
  KnownP.of' (h.alloc _) (blk_new _ _) (blk_alloc hs _)
theorem KnownP.mod {w : World} {D E g5 F : Nat} {W W' : World} (h : KnownP w D E g5 F W) (hm : Mod (fun _ => False) W W') : KnownP w D E g5 F W' :=
  KnownP.of' (h.1.mod hm) (hm.blk h.2.1 (fun x => x)) (hm.blk h.2.2.1 (fun x => x))
theorem KnownP.good {w : World} {D E g5 F : Nat} {W : World} (h : KnownP w D E g5 F W) : Calls Tryd.prog 8 #[.agg #[.int .i64 5, .slice (some ⟨g5, 0, none⟩) 1 1, .int .i64 2, .int .i64 3, .int .i64 2, .int .i64 8, .int .i64 64, .int .i64 9]] W fun d w' => d = .returned (.bool false) ∧ Mod (fun _ => False) W w' :=
  (good_any ⟨5, [31], 2, 3, 2, 8, 64, 9⟩ (.slice (some ⟨g5, 0, none⟩) 1 1) W (SetsIn.one h.2.2.1 (by decide))).mono fun _ _ ⟨x, y⟩ => ⟨by rw [x, show Cf.good ⟨5, [31], 2, 3, 2, 8, 64, 9⟩ = false from by decide +kernel], y⟩

set_option maxRecDepth 100000 in
set_option maxHeartbeats 8000000 in
theorem known_any (w : World) (hT : Tab w) : Calls Tryd.prog 3 #[] w fun d w' => d = .returned (.bool true) ∧ Mod (fun _ => False) w w' := by
  have HTb := Lib.hid hT
  clear hT
  have hmk := make_cfg
  go_enter Tryd.func3, Tryd.ntmps3
  go_wp2_with fail
  refine (awake_calls _).mono ?_
  rintro d w1 ⟨rfl, hm1⟩
  have HA : Hid (KnownA w w1.heap.size 0 (fun _ => 0) (w1.alloc (.cells (madeCells zeroRow 96) 26))) :=
    ⟨(Rowed.zero w1).ext (fun j _ => by simp [plainRows]), fun j hj => absurd hj (by omega), hm1.alloc _, hm1.size, by simp⟩
  clear hm1
  go_wp2
  clear hmk
  go_loopw [2] (fun i wr => ∃ (k : Nat) (gs : Nat → Nat), k ≤ 12 ∧ i = .int .i64 k ∧ Hid (KnownA w w1.heap.size k gs wr)) (fun i _ => 12 - (intOf i).toNat)
  case atStart => exact ⟨0, _, by omega, rfl, HA⟩
  case round =>
    obtain ⟨k, gs, hk, rfl, hR⟩ := hrel
    generalize w1.heap.size = B at hR ⊢
    by_cases hlt : k < 12
    · have hi : (k : Int) < 12 := by omega
      have hi0 : 0 ≤ (k : Int) := by omega
      go_wp2_with fail
      refine (plain_new 3 1 wr).mono ?_
      rintro d w2 ⟨g, rfl, hs2, hg2, hm2⟩
      have HR := Lib.hid (KnownA.step hR.out hlt hm2 hs2 hg2)
      have hr2 := hR.out.1.mod hm2 (fun x => x)
      have c0 : w2.cell? ⟨B, k * 8, none⟩ = some (.int .i64 0) := (hr2.cell k 0 hlt (by decide)).trans (by unfold plainRows; rw [if_neg (by omega)]; rfl)
      have c1 : w2.cell? ⟨B, k * 8 + 1, none⟩ = some (.slice none 0 0) := (hr2.cell k 1 hlt (by decide)).trans (by unfold plainRows; rw [if_neg (by omega)]; rfl)
      have c2 : w2.cell? ⟨B, k * 8 + 2, none⟩ = some (.int .i64 0) := (hr2.cell k 2 hlt (by decide)).trans (by unfold plainRows; rw [if_neg (by omega)]; rfl)
      have c3 : w2.cell? ⟨B, k * 8 + 3, none⟩ = some (.int .i64 0) := (hr2.cell k 3 hlt (by decide)).trans (by unfold plainRows; rw [if_neg (by omega)]; rfl)
      have c4 : w2.cell? ⟨B, k * 8 + 4, none⟩ = some (.int .i64 0) := (hr2.cell k 4 hlt (by decide)).trans (by unfold plainRows; rw [if_neg (by omega)]; rfl)
      have c5 : w2.cell? ⟨B, k * 8 + 5, none⟩ = some (.int .i64 0) := (hr2.cell k 5 hlt (by decide)).trans (by unfold plainRows; rw [if_neg (by omega)]; rfl)
      have c6 : w2.cell? ⟨B, k * 8 + 6, none⟩ = some (.int .i64 0) := (hr2.cell k 6 hlt (by decide)).trans (by unfold plainRows; rw [if_neg (by omega)]; rfl)
      have c7 : w2.cell? ⟨B, k * 8 + 7, none⟩ = some (.int .i64 0) := (hr2.cell k 7 hlt (by decide)).trans (by unfold plainRows; rw [if_neg (by omega)]; rfl)
      have f0 := hr2.frozen
      clear hm2 hs2 hg2 hr2
      unfold rowOf setAt
      unfold setAt at HR
      go_wp2
      go_roundw
      case rel => exact ⟨k + 1, _, by omega, by go_num, HR⟩
      case measure => simp [intOf]; omega
    · have hk12 : k = 12 := by omega
      have hi12 : (k : Int) = 12 := by omega
      rw [hi12]
      rw [hk12] at hR
      clear hi12 hk12 hlt hk k
      have hi : ¬ (12 : Int) < 12 := by omega
      have c0 : wr.cell? ⟨B, 0, none⟩ = some (.int .i64 3) := (hR.out.1.cell 0 0 (by decide) (by decide)).trans rfl
      have f0 : wr.frozen? ⟨B, 0, none⟩ = false := hR.out.1.frozen _
      have c1 : wr.cell? ⟨B, 9, none⟩ = some (.slice (some ⟨gs 1, 0, none⟩) 1 1) := (hR.out.1.cell 1 1 (by decide) (by decide)).trans rfl
      have f1 : wr.frozen? ⟨B, 9, none⟩ = false := hR.out.1.frozen _
      have c2 : wr.cell? ⟨B, 17, none⟩ = some (.slice (some ⟨gs 2, 0, none⟩) 1 1) := (hR.out.1.cell 2 1 (by decide) (by decide)).trans rfl
      have f2 : wr.frozen? ⟨B, 17, none⟩ = false := hR.out.1.frozen _
      have c3 : wr.cell? ⟨B, 26, none⟩ = some (.int .i64 2) := (hR.out.1.cell 3 2 (by decide) (by decide)).trans rfl
      have f3 : wr.frozen? ⟨B, 26, none⟩ = false := hR.out.1.frozen _
      have c4 : wr.cell? ⟨B, 35, none⟩ = some (.int .i64 3) := (hR.out.1.cell 4 3 (by decide) (by decide)).trans rfl
      have f4 : wr.frozen? ⟨B, 35, none⟩ = false := hR.out.1.frozen _
      have c5 : wr.cell? ⟨B, 44, none⟩ = some (.int .i64 2) := (hR.out.1.cell 5 4 (by decide) (by decide)).trans rfl
      have f5 : wr.frozen? ⟨B, 44, none⟩ = false := hR.out.1.frozen _
      have c6 : wr.cell? ⟨B, 53, none⟩ = some (.int .i64 8) := (hR.out.1.cell 6 5 (by decide) (by decide)).trans rfl
      have f6 : wr.frozen? ⟨B, 53, none⟩ = false := hR.out.1.frozen _
      have c7 : wr.cell? ⟨B, 62, none⟩ = some (.int .i64 64) := (hR.out.1.cell 7 6 (by decide) (by decide)).trans rfl
      have f7 : wr.frozen? ⟨B, 62, none⟩ = false := hR.out.1.frozen _
      have c8 : wr.cell? ⟨B, 71, none⟩ = some (.int .i64 1) := (hR.out.1.cell 8 7 (by decide) (by decide)).trans rfl
      have f8 : wr.frozen? ⟨B, 71, none⟩ = false := hR.out.1.frozen _
      have c9 : wr.cell? ⟨B, 73, none⟩ = some (.slice (some ⟨gs 9, 0, none⟩) 1 1) := (hR.out.1.cell 9 1 (by decide) (by decide)).trans rfl
      have f9 : wr.frozen? ⟨B, 73, none⟩ = false := hR.out.1.frozen _
      have c10 : wr.cell? ⟨B, 84, none⟩ = some (.int .i64 2) := (hR.out.1.cell 10 4 (by decide) (by decide)).trans rfl
      have f10 : wr.frozen? ⟨B, 84, none⟩ = false := hR.out.1.frozen _
      have c11 : wr.cell? ⟨B, 88, none⟩ = some (.int .i64 3) := (hR.out.1.cell 11 0 (by decide) (by decide)).trans rfl
      have f11 : wr.frozen? ⟨B, 88, none⟩ = false := hR.out.1.frozen _
      have hBlt := hR.out.2.2.2.2
      have m1 : B < wr.heap.size + 1 := by omega
      have m2 : B < wr.heap.size + 1 + 1 := by omega
      have m3 : B < wr.heap.size + 1 + 1 + 1 := by omega
      have n0 : ¬ B = wr.heap.size := by omega
      have n1 : ¬ B = wr.heap.size + 1 := by omega
      have n2 : ¬ B = wr.heap.size + 2 := by omega
      have n3 : ¬ B = wr.heap.size + 1 + 1 := by omega
      have hmk1 : ∀ w : World, (Instr.makeSlice 24 (.int .i64 1) (.int .i64 1)).run Tryd.prog w = .ok (.slice (some ⟨w.heap.size, 0, none⟩) 1 1) (w.alloc (.cells (madeCells #[.int .u64 0] 1) 29)) := make_set 1 (by decide)
      have hmk2 : ∀ w : World, (Instr.makeSlice 24 (.int .i64 17) (.int .i64 17)).run Tryd.prog w = .ok (.slice (some ⟨w.heap.size, 0, none⟩) 17 17) (w.alloc (.cells (madeCells #[.int .u64 0] 17) 29)) := make_set 17 (by decide)
      have HBk := Lib.hid (KnownB.of hR.out)
      clear hR HA
      unfold s12 at HBk
      repeat (first | go_values | go_skip | go_guarded | go_step | go_upon | go_back)
      clear c0 f0 c1 f1 c2 f2 c3 f3 c4 f4 c5 f5 c6 f6 c7 f7 c8 f8 c9 f9 c10 f10 c11 f11 hmk1 hmk2 m1 m2 m3 n0 n1 n2 n3 hBlt
      go_loopw [3] (fun i wr => ∃ k : Nat, k ≤ 12 ∧ i = .int .i64 k ∧ Hid (KnownB w B wr)) (fun i _ => 12 - (intOf i).toNat)
      case atStart => exact ⟨0, by omega, rfl, HBk⟩
      case round =>
        obtain ⟨k, hk, rfl, hR⟩ := hrel
        by_cases hlt : k < 12
        · obtain ⟨hm, rows, hrw, hcs⟩ := hR.out
          obtain ⟨⟨n, l, wi, q, f, m, b, en⟩, v, e1, e2, e3⟩ := hcs k hlt
          have hki : (k : Int) < 12 := by omega
          have hki0 : 0 ≤ (k : Int) := by omega
          have c0 : wr.cell? ⟨B, k * 8, none⟩ = some (.int .i64 n) := (hrw.cell k 0 hlt (by decide)).trans (by rw [e1]; rfl)
          have c1 : wr.cell? ⟨B, k * 8 + 1, none⟩ = some (v) := (hrw.cell k 1 hlt (by decide)).trans (by rw [e1]; rfl)
          have c2 : wr.cell? ⟨B, k * 8 + 2, none⟩ = some (.int .i64 wi) := (hrw.cell k 2 hlt (by decide)).trans (by rw [e1]; rfl)
          have c3 : wr.cell? ⟨B, k * 8 + 3, none⟩ = some (.int .i64 q) := (hrw.cell k 3 hlt (by decide)).trans (by rw [e1]; rfl)
          have c4 : wr.cell? ⟨B, k * 8 + 4, none⟩ = some (.int .i64 f) := (hrw.cell k 4 hlt (by decide)).trans (by rw [e1]; rfl)
          have c5 : wr.cell? ⟨B, k * 8 + 5, none⟩ = some (.int .i64 m) := (hrw.cell k 5 hlt (by decide)).trans (by rw [e1]; rfl)
          have c6 : wr.cell? ⟨B, k * 8 + 6, none⟩ = some (.int .i64 b) := (hrw.cell k 6 hlt (by decide)).trans (by rw [e1]; rfl)
          have c7 : wr.cell? ⟨B, k * 8 + 7, none⟩ = some (.int .i64 en) := (hrw.cell k 7 hlt (by decide)).trans (by rw [e1]; rfl)
          have HG := Lib.hid (good_any ⟨n, l, wi, q, f, m, b, en⟩ v wr e2)
          rw [e3] at HG
          unfold Cf.val Cf.cells at HG
          clear hm hrw hcs e1 e2 e3
          go_wp2_with fail
          refine HG.out.mono ?_
          rintro d w2 ⟨rfl, hm2⟩
          have HR2 := Lib.hid (hR.out.mod hm2)
          clear hm2
          go_wp2
          go_roundw
          case rel => exact ⟨k + 1, by omega, by go_num, HR2⟩
          case measure => simp [intOf]; omega
        · have hki : ¬ (k : Int) < 12 := by omega
          have HM := Lib.hid hR.out.1
          clear hR HBk
          go_wp2_with fail
          refine (plain_new 4 2 _).mono ?_
          rintro d w2 ⟨g4, rfl, hs4, hg4, hm4⟩
          have HM2 := Lib.hid (HM.out.trans hm4)
          clear hs4 hg4 hm4 HM
          unfold rowOf setAt
          have HH : Hid (HeldC w w2.heap.size 4 [6, 8] 2 3 2 8 64 2 (.slice (some ⟨w2.heap.size + 1, 0, none⟩) 2 2) ((w2.alloc (.cells #[.int .i64 4, .slice (some ⟨w2.heap.size + 1, 0, none⟩) 2 2, .int .i64 2, .int .i64 3, .int .i64 2, .int .i64 8, .int .i64 64, .int .i64 2] 26)).alloc (.cells #[.int .u64 6, .int .u64 8] 29))) :=
            Held.cells ⟨blk_alloc (blk_new _ _) _, SetsIn.pair (a := 6) (b := 8) (by have h := blk_new (w2.alloc (.cells #[.int .i64 4, .slice (some ⟨w2.heap.size + 1, 0, none⟩) 2 2, .int .i64 2, .int .i64 3, .int .i64 2, .int .i64 8, .int .i64 64, .int .i64 2] 26)) (.cells #[.int .u64 6, .int .u64 8] 29); rw [World.size_alloc] at h; exact h) (by decide) (by decide), (HM2.out.alloc _).alloc _⟩
          clear HM2
          have K0 : Hid (∀ D E W, HeldC w D 4 [6, 8] 2 3 2 8 64 2 (.slice (some ⟨E, 0, none⟩) 2 2) W → Calls Tryd.prog 9 #[.agg #[.int .i64 4, .slice (some ⟨E, 0, none⟩) 2 2, .int .i64 2, .int .i64 3, .int .i64 2, .int .i64 8, .int .i64 64, .int .i64 2], .int .i64 0] W fun d w' => d = .returned (.tuple #[.int .i64 1, .bool true]) ∧ Mod (fun _ => False) W w') :=
            fun D E W h => (keeper_any ⟨4, [6, 8], 2, 3, 2, 8, 64, 2⟩ (.slice (some ⟨E, 0, none⟩) 2 2) 0 W h.1.2.1 (HTb.out.mod h.modOf (fun x => x))).mono fun _ _ ⟨x, y⟩ => ⟨by rw [x, show Cf.keeper ⟨4, [6, 8], 2, 3, 2, 8, 64, 2⟩ 0 = (1, true) from by decide +kernel]; try rfl, y⟩
          have K2 : Hid (∀ D E W, HeldC w D 4 [6, 8] 2 3 2 8 64 2 (.slice (some ⟨E, 0, none⟩) 2 2) W → Calls Tryd.prog 9 #[.agg #[.int .i64 4, .slice (some ⟨E, 0, none⟩) 2 2, .int .i64 2, .int .i64 3, .int .i64 2, .int .i64 8, .int .i64 64, .int .i64 2], .int .i64 2] W fun d w' => d = .returned (.tuple #[.int .i64 0, .bool false]) ∧ Mod (fun _ => False) W w') :=
            fun D E W h => (keeper_any ⟨4, [6, 8], 2, 3, 2, 8, 64, 2⟩ (.slice (some ⟨E, 0, none⟩) 2 2) 2 W h.1.2.1 (HTb.out.mod h.modOf (fun x => x))).mono fun _ _ ⟨x, y⟩ => ⟨by rw [x, show Cf.keeper ⟨4, [6, 8], 2, 3, 2, 8, 64, 2⟩ 2 = (0, false) from by decide +kernel]; try rfl, y⟩
          have S0 : Hid (∀ D E W, HeldC w D 4 [6, 8] 2 3 2 8 64 2 (.slice (some ⟨E, 0, none⟩) 2 2) W → Calls Tryd.prog 10 #[.agg #[.int .i64 4, .slice (some ⟨E, 0, none⟩) 2 2, .int .i64 2, .int .i64 3, .int .i64 2, .int .i64 8, .int .i64 64, .int .i64 2], .int .i64 3, .int .i64 1] W fun d w' => d = .returned (.bool true) ∧ Mod (fun _ => False) W w') :=
            fun D E W h => (keeps_any ⟨4, [6, 8], 2, 3, 2, 8, 64, 2⟩ (.slice (some ⟨E, 0, none⟩) 2 2) 3 1 W h.1.2.1).mono fun _ _ ⟨x, y⟩ => ⟨by rw [x, show Cf.keeps ⟨4, [6, 8], 2, 3, 2, 8, 64, 2⟩ 3 1 = true from by decide +kernel]; try rfl, y⟩
          have S1 : Hid (∀ D E W, HeldC w D 4 [6, 8] 2 3 2 8 64 2 (.slice (some ⟨E, 0, none⟩) 2 2) W → Calls Tryd.prog 10 #[.agg #[.int .i64 4, .slice (some ⟨E, 0, none⟩) 2 2, .int .i64 2, .int .i64 3, .int .i64 2, .int .i64 8, .int .i64 64, .int .i64 2], .int .i64 0, .int .i64 0] W fun d w' => d = .returned (.bool false) ∧ Mod (fun _ => False) W w') :=
            fun D E W h => (keeps_any ⟨4, [6, 8], 2, 3, 2, 8, 64, 2⟩ (.slice (some ⟨E, 0, none⟩) 2 2) 0 0 W h.1.2.1).mono fun _ _ ⟨x, y⟩ => ⟨by rw [x, show Cf.keeps ⟨4, [6, 8], 2, 3, 2, 8, 64, 2⟩ 0 0 = false from by decide +kernel]; try rfl, y⟩
          have S2 : Hid (∀ D E W, HeldC w D 4 [6, 8] 2 3 2 8 64 2 (.slice (some ⟨E, 0, none⟩) 2 2) W → Calls Tryd.prog 10 #[.agg #[.int .i64 4, .slice (some ⟨E, 0, none⟩) 2 2, .int .i64 2, .int .i64 3, .int .i64 2, .int .i64 8, .int .i64 64, .int .i64 2], .int .i64 1, .int .i64 (-1)] W fun d w' => d = .returned (.bool false) ∧ Mod (fun _ => False) W w') :=
            fun D E W h => (keeps_any ⟨4, [6, 8], 2, 3, 2, 8, 64, 2⟩ (.slice (some ⟨E, 0, none⟩) 2 2) 1 (-1) W h.1.2.1).mono fun _ _ ⟨x, y⟩ => ⟨by rw [x, show Cf.keeps ⟨4, [6, 8], 2, 3, 2, 8, 64, 2⟩ 1 (-1) = false from by decide +kernel]; try rfl, y⟩
          have M0 : Hid (∀ D E W, HeldC w D 4 [6, 8] 2 3 2 8 64 2 (.slice (some ⟨E, 0, none⟩) 2 2) W → Calls Tryd.prog 11 #[.agg #[.int .i64 4, .slice (some ⟨E, 0, none⟩) 2 2, .int .i64 2, .int .i64 3, .int .i64 2, .int .i64 8, .int .i64 64, .int .i64 2], .int .i64 0, .int .u64 1] W fun d w' => d = .returned (.bool false) ∧ Mod (fun _ => False) W w') :=
            fun D E W h => (may_any ⟨4, [6, 8], 2, 3, 2, 8, 64, 2⟩ (.slice (some ⟨E, 0, none⟩) 2 2) 0 1 W h.1.2.1 (by decide)).mono fun _ _ ⟨x, y⟩ => ⟨by rw [x, show Cf.may ⟨4, [6, 8], 2, 3, 2, 8, 64, 2⟩ 0 1 = false from by decide +kernel]; try rfl, y⟩
          have M1 : Hid (∀ D E W, HeldC w D 4 [6, 8] 2 3 2 8 64 2 (.slice (some ⟨E, 0, none⟩) 2 2) W → Calls Tryd.prog 11 #[.agg #[.int .i64 4, .slice (some ⟨E, 0, none⟩) 2 2, .int .i64 2, .int .i64 3, .int .i64 2, .int .i64 8, .int .i64 64, .int .i64 2], .int .i64 0, .int .u64 0] W fun d w' => d = .returned (.bool false) ∧ Mod (fun _ => False) W w') :=
            fun D E W h => (may_any ⟨4, [6, 8], 2, 3, 2, 8, 64, 2⟩ (.slice (some ⟨E, 0, none⟩) 2 2) 0 0 W h.1.2.1 (by decide)).mono fun _ _ ⟨x, y⟩ => ⟨by rw [x, show Cf.may ⟨4, [6, 8], 2, 3, 2, 8, 64, 2⟩ 0 0 = false from by decide +kernel]; try rfl, y⟩
          have M2 : Hid (∀ D E W, HeldC w D 4 [6, 8] 2 3 2 8 64 2 (.slice (some ⟨E, 0, none⟩) 2 2) W → Calls Tryd.prog 11 #[.agg #[.int .i64 4, .slice (some ⟨E, 0, none⟩) 2 2, .int .i64 2, .int .i64 3, .int .i64 2, .int .i64 8, .int .i64 64, .int .i64 2], .int .i64 4, .int .u64 1] W fun d w' => d = .returned (.bool false) ∧ Mod (fun _ => False) W w') :=
            fun D E W h => (may_any ⟨4, [6, 8], 2, 3, 2, 8, 64, 2⟩ (.slice (some ⟨E, 0, none⟩) 2 2) 4 1 W h.1.2.1 (by decide)).mono fun _ _ ⟨x, y⟩ => ⟨by rw [x, show Cf.may ⟨4, [6, 8], 2, 3, 2, 8, 64, 2⟩ 4 1 = false from by decide +kernel]; try rfl, y⟩
          have M3 : Hid (∀ D E W, HeldC w D 4 [6, 8] 2 3 2 8 64 2 (.slice (some ⟨E, 0, none⟩) 2 2) W → Calls Tryd.prog 11 #[.agg #[.int .i64 4, .slice (some ⟨E, 0, none⟩) 2 2, .int .i64 2, .int .i64 3, .int .i64 2, .int .i64 8, .int .i64 64, .int .i64 2], .int .i64 0, .int .u64 16] W fun d w' => d = .returned (.bool false) ∧ Mod (fun _ => False) W w') :=
            fun D E W h => (may_any ⟨4, [6, 8], 2, 3, 2, 8, 64, 2⟩ (.slice (some ⟨E, 0, none⟩) 2 2) 0 16 W h.1.2.1 (by decide)).mono fun _ _ ⟨x, y⟩ => ⟨by rw [x, show Cf.may ⟨4, [6, 8], 2, 3, 2, 8, 64, 2⟩ 0 16 = false from by decide +kernel]; try rfl, y⟩
          have hHx := HH.out.2
          go_wp2_with fail
          refine (K0.out _ _ _ HH.out).mono ?_
          rintro d w3 ⟨rfl, hm3⟩
          have HH := Lib.hid (HH.out.mod hm3)
          clear hHx hm3 K0
          generalize w2.heap.size + 1 = E at HH ⊢
          generalize w2.heap.size = D at HH ⊢
          have hHx := HH.out.2
          go_wp2_with fail
          refine (K2.out _ _ _ HH.out).mono ?_
          rintro d w4 ⟨rfl, hm4⟩
          have HH := Lib.hid (HH.out.mod hm4)
          clear hHx hm4 K2
          go_wp2_with fail
          refine (plain_new 5 9 _).mono ?_
          rintro d w5 ⟨g5, rfl, hs5, hg5, hm5⟩
          have HP : Hid (KnownP w D E g5 w5.heap.size (w5.alloc (.cells #[.int .i64 5, .slice (some ⟨g5, 0, none⟩) 1 1, .int .i64 2, .int .i64 3, .int .i64 2, .int .i64 8, .int .i64 64, .int .i64 9] 26))) := KnownP.of (HH.out.mod hm5) hs5
          clear HH hs5 hg5 hm5
          unfold rowOf setAt
          have hHx := HP.out.1.2
          have hPx := HP.out.2.2.2
          go_wp2_with fail
          refine (S0.out D E _ HP.out.1).mono ?_
          rintro d v0 ⟨rfl, hm⟩
          have HP := Lib.hid (HP.out.mod hm)
          clear hHx hPx hm S0
          generalize w5.heap.size = F at HP ⊢
          have hHx := HP.out.1.2
          have hPx := HP.out.2.2.2
          go_wp2_with fail
          refine (S1.out D E _ HP.out.1).mono ?_
          rintro d v1 ⟨rfl, hm⟩
          have HP := Lib.hid (HP.out.mod hm)
          clear hHx hPx hm S1
          have hHx := HP.out.1.2
          have hPx := HP.out.2.2.2
          go_wp2_with fail
          refine (S2.out D E _ HP.out.1).mono ?_
          rintro d v2 ⟨rfl, hm⟩
          have HP := Lib.hid (HP.out.mod hm)
          clear hHx hPx hm S2
          have hHx := HP.out.1.2
          have hPx := HP.out.2.2.2
          go_wp2_with fail
          refine (M0.out D E _ HP.out.1).mono ?_
          rintro d v3 ⟨rfl, hm⟩
          have HP := Lib.hid (HP.out.mod hm)
          clear hHx hPx hm M0
          have hHx := HP.out.1.2
          have hPx := HP.out.2.2.2
          go_wp2_with fail
          refine (M1.out D E _ HP.out.1).mono ?_
          rintro d v4 ⟨rfl, hm⟩
          have HP := Lib.hid (HP.out.mod hm)
          clear hHx hPx hm M1
          have hHx := HP.out.1.2
          have hPx := HP.out.2.2.2
          go_wp2_with fail
          refine (M2.out D E _ HP.out.1).mono ?_
          rintro d v5 ⟨rfl, hm⟩
          have HP := Lib.hid (HP.out.mod hm)
          clear hHx hPx hm M2
          have hHx := HP.out.1.2
          have hPx := HP.out.2.2.2
          go_wp2_with fail
          refine (M3.out D E _ HP.out.1).mono ?_
          rintro d v6 ⟨rfl, hm⟩
          have HP := Lib.hid (HP.out.mod hm)
          clear hHx hPx hm M3
          have hHx := HP.out.1.2
          have hPx := HP.out.2.2.2
          go_wp2_with fail
          refine (HP.out.good).mono ?_
          rintro d v7 ⟨rfl, hm⟩
          have HP := Lib.hid (HP.out.mod hm)
          clear hHx hPx hm
          have hHx := HP.out.1.2
          have hPx := HP.out.2.2.2
          go_wp2_with fail
          refine (plain_new (-1) 1 _).mono ?_
          rintro d v8 ⟨g6, rfl, hs, _, hm⟩
          have HP := Lib.hid (HP.out.mod hm)
          have c6 : v8.cell? ⟨g6, 0, none⟩ = some (.int .u64 0) := (blk_cell hs 0).trans rfl
          clear hHx hPx hm hs
          unfold rowOf setAt
          have hfld := field_vars
          have hHx := HP.out.1.2
          have hPx := HP.out.2.2.2
          go_wp2_with fail
          refine (plain_new 65 1 _).mono ?_
          rintro d v9 ⟨g7, rfl, hs, _, hm⟩
          have HP := Lib.hid (HP.out.mod hm)
          have c7 : v9.cell? ⟨g7, 0, none⟩ = some (.int .u64 0) := (blk_cell hs 0).trans rfl
          clear hHx hPx hm hs c6
          unfold rowOf setAt
          have hHx := HP.out.1.2
          have hPx := HP.out.2.2.2
          go_wp2
          go_ret
          exact ⟨rfl, HP.out.1.modOf⟩
end Go.Proofs.YtcnjllkmliphkaaDoor
