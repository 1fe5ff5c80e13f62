/-
  A key is put into a slice of keys.
-/
import Derived.Test.YtpjlplkoiedhjaaMetA
import Derived.Lib.Overlaps
import Derived.Lib.AppendZeros
import Derived.Laws.Externs
import Derived.Laws.IdiomCopy
import Derived.Shelf.Spec.SlicesInsert
import Derived.Shelf.Spec.SlicesInsertGrow
set_option linter.unusedVariables false
set_option linter.unusedSimpArgs false
namespace Go.Proofs.Ytpjlplkoiedhjaa
open Go.RowKit Go.Shoal Go.Lib

theorem info_u64 : (Try.prog.info? 52).map (fun i => (i.zero, i.size, i.bytes)) = some (some (.int .u64 0), 1, 8) := by kernel_rfl
theorem size_u64 (w : World) : (Go.sizeOf 52).run Try.prog w = .ok 1 w := by
  obtain ⟨i0, h0, _, h1, _⟩ := info_parts info_u64
  simp [sizeOf, typeInfo, h0, h1]
set_option maxHeartbeats 4000000 in
set_option maxRecDepth 100000 in
theorem shift_ins (b off n c i vb voff m vc : Nat) (cs vs : List Value) (w : World) (hi : i < n) (hm : 0 < m) (hroom : n + m ≤ c) (hc63 : c ≤ 9223372036854775807) (hvb : vb ≠ b)
    (hcl : cs.length = n) (hvl : vs.length = m)
    (hcs : ∀ j v, cs[j]? = some v → w.cell? ⟨b, off + j, none⟩ = some v) (hsp : ∀ j, j < n + m → (w.cell? ⟨b, off + j, none⟩).isSome = true) (hfz : ∀ j, j < n + m → w.frozen? ⟨b, off + j, none⟩ = false)
    (hvs : ∀ j v, vs[j]? = some v → w.cell? ⟨vb, voff + j, none⟩ = some v) (h1c : ∀ v ∈ cs, v.oneCell' = true) (h1v : ∀ v ∈ vs, v.oneCell' = true)
    (tA tB : TypeId) (kA kB : Nat) (hsa : w.shape? vb = some (tA, kA)) (hsb : w.shape? b = some (tB, kB)) (hkB : kB ≠ 0) (hfa : w.frozen? ⟨vb, voff, none⟩ = false) (hfe : w.frozen? ⟨vb, kA, none⟩ = false) :
    Calls Try.prog 38 #[.slice (some ⟨b, off, none⟩) n c, .int .i64 i, .slice (some ⟨vb, voff, none⟩) m vc] w fun e w' =>
      e = .returned (.slice (some ⟨b, off, none⟩) (n + m) c) ∧ w' = (w.drew.setCells b (off + (i + m)) (cs.drop i)).setCells b (off + i) vs := by
  have hz1 : ¬ ((m : Int) = 0) := by omega
  have hz2 : ¬ ((i : Int) = (n : Int)) := by omega
  have hsz : (Try.prog.info? 52).map (·.size) = some 1 := by
    obtain ⟨i0, hi0, h0, h1, h2⟩ := info_parts info_u64
    rw [hi0]; simp [h1]
  have hov : ∀ lb cb, (callFunc 48 #[.slice (some ⟨vb, voff, none⟩) m vc, .slice (some ⟨b, off + (i + m), none⟩) lb cb]).run Try.prog w = .ok (.value (.bool false)) w := fun lb cb => by
    rw [run_callFunc_extern Try.func48 (by kernel_rfl) (by kernel_rfl) (by kernel_rfl) (e := Extern.SlicesOverlaps.overlaps #[49, 49] #[4]) (by kernel_rfl),
      Lib.run_overlaps_apart w 49 4 52 Try.underlying49 1 size_u64 ⟨vb, voff, none⟩ ⟨b, off + (i + m), none⟩ m vc lb cb hvb tA tB kA kB hsa hsb hkB hfa hfe]
    rfl
  have hdl : (cs.drop i).length = n - i := by rw [List.length_drop, hcl]
  have hw1 : IntKind.i64.wrap ((i : Int) + (m : Int)) = (i : Int) + (m : Int) := by rw [IntKind.wrap_i64]; omega
  have hb1 : (0 : Int) ≤ (i : Int) + (m : Int) := by omega
  have hin : i ≤ n := by omega
  have htn : ((i : Int) + (m : Int)).toNat = i + m := by omega
  have hb2 : ¬ (c = i + m) := by omega
  have hb3 : (i : Int) ≤ (n : Int) + (m : Int) := by omega
  have hb4 : ¬ (c = i) := by omega
  have hcp1 : ∀ ty dc sc, (Builtin.copy_ #[49, 49] ty #[.slice (some ⟨b, off + (i + m), none⟩) (n + m - (i + m)) dc, .slice (some ⟨b, off + i, none⟩) (n + m - i) sc]).run Try.prog w.drew = .ok (goInt (cs.drop i).length) (w.drew.setCells b (off + (i + m)) (cs.drop i)) := fun ty dc sc =>
    run_copy_cells w.drew _ _ ty 52 b (off + (i + m)) (n + m - (i + m)) dc ⟨b, off + i, none⟩ (n + m - i) sc (cs.drop i) Try.underlying49 hsz (by rw [hdl]; simp only [Nat.min_def]; split <;> omega)
      (fun j v hj => by rw [Addr.add_lit, Nat.add_assoc]; exact hcs (i + j) v (by rwa [List.getElem?_drop] at hj))
      (fun j hj => by rw [Nat.add_assoc]; exact hsp _ (by omega)) (fun j hj => by rw [Nat.add_assoc]; exact hfz _ (by omega)) (fun v hv => h1c v (List.mem_of_mem_drop hv))
  obtain ⟨W1, hW1⟩ : ∃ W1, W1 = w.drew.setCells b (off + (i + m)) (cs.drop i) := ⟨_, rfl⟩
  have hsp1 : ∀ k, k < n + m → (W1.cell? ⟨b, off + k, none⟩).isSome = true := fun k hk => by
    rw [hW1]
    exact isSome_setCells b _ _ _ (fun j hj => by rw [Nat.add_assoc]; exact hsp _ (by omega)) _ (hsp k hk)
  have hcp2 : ∀ (W : World), (∀ x, W.cell? x = W1.cell? x) → (∀ x, W.frozen? x = W1.frozen? x) → ∀ ty dc, (Builtin.copy_ #[49, 49] ty #[.slice (some ⟨b, off + i, none⟩) (n + m - i) dc, .slice (some ⟨vb, voff, none⟩) m vc]).run Try.prog W = .ok (goInt vs.length) (W.setCells b (off + i) vs) := fun W hWc hWf ty dc =>
    run_copy_cells W _ _ ty 52 b (off + i) (n + m - i) dc ⟨vb, voff, none⟩ m vc vs Try.underlying49 hsz (by rw [hvl]; simp only [Nat.min_def]; split <;> omega)
      (fun j v hj => by
        rw [Addr.add_lit, hWc, hW1, World.cell?_setCells_out b _ _ _ _ (fun h _ => absurd h hvb)]
        exact hvs j v hj)
      (fun j hj => by rw [hWc, Nat.add_assoc]; exact hsp1 _ (by omega)) (fun j hj => by rw [hWf, hW1, World.frozen?_setCells, Nat.add_assoc]; exact hfz _ (by omega)) h1v
  rw [← hW1] at hcp1
  go_enter Try.func38, Try.ntmps38
  go_wp2_with (simp only [hov])
  go_region_law (refine step_copy_runI rfl _ _ 49 49 rfl _ _ (by simp [Act.eval, Act.put]) (by simp [Act.eval, Act.put]) (hcp1 _ _ _) ?_)
  go_wp2_with (at_builtin; refine wpList_copy_runI _ rfl _ _ 49 49 rfl _ _ rfl rfl (hcp2 _ (fun _ => rfl) (fun _ => rfl) _ _) ?_)
  go_ret
  first | exact ⟨rfl, rfl⟩ | exact ⟨rfl, by rw [hW1]⟩
set_option maxHeartbeats 4000000 in
set_option maxRecDepth 100000 in
theorem grow_ins (b off n c i vb voff m vc : Nat) (cs vs : List Value) (w : World) (hi : i < n) (hm : 0 < m) (hnc : n ≤ c) (hroom : c < n + m) (hbig : (n + m) * 8 ≤ 140737488355328)
    (hcl : cs.length = n) (hvl : vs.length = m)
    (hcs : ∀ j v, cs[j]? = some v → w.cell? ⟨b, off + j, none⟩ = some v)
    (hvs : ∀ j v, vs[j]? = some v → w.cell? ⟨vb, voff + j, none⟩ = some v) (h1c : ∀ v ∈ cs, v.oneCell' = true) (h1v : ∀ v ∈ vs, v.oneCell' = true) :
    Calls Try.prog 38 #[.slice (some ⟨b, off, none⟩) n c, .int .i64 i, .slice (some ⟨vb, voff, none⟩) m vc] w fun e w' =>
      e = .returned (.slice (some ⟨w.heap.size, 0, none⟩) (n + m) (grownCap w (n + m) c 52)) ∧
      w' = (((w.alloc (.cells ((cs.take i).toArray ++ Builtin.zeroCells (Value.int .u64 0).cells (n + m - i) ++ Builtin.zeroCells (Value.int .u64 0).cells (grownCap w (n + m) c 52 - (n + m))) 52)).drew.setCells w.heap.size i vs).drew).setCells w.heap.size (i + m) (cs.drop i) := by
  obtain ⟨i0, hi0, hz0, hzs, hzb⟩ := info_parts info_u64
  have hz1 : ¬ ((m : Int) = 0) := by omega
  have hz2 : ¬ ((i : Int) = (n : Int)) := by omega
  have hz3 : (c : Int) < (n : Int) + (m : Int) := by omega
  have hsz : (Try.prog.info? 52).map (·.size) = some 1 := by rw [hi0]; simp [hzs]
  have hbw : b < w.heap.size := block_lt_of_cell (hcs 0 _ (List.getElem?_eq_getElem (by omega)))
  have hvw : vb < w.heap.size := block_lt_of_cell (hvs 0 _ (List.getElem?_eq_getElem (by omega)))
  have hkk : (n : Int) + (m : Int) - (i : Int) = ((n + m - i : Nat) : Int) := by omega
  have hik : i + (n + m - i) = n + m := by omega
  have hold : (Builtin.firstCells i0.size i (.slice (some ⟨b, off, none⟩) i c)).run Try.prog w.drew = .ok (cs.take i).toArray w.drew := by
    rw [hzs]
    exact run_firstCells_some w.drew 1 i ⟨b, off, none⟩ i c (cs.take i) (by rw [List.length_take]; omega) (fun j v hj => by
      rw [Addr.add_lit]
      rw [List.getElem?_take] at hj
      split at hj
      · exact hcs j v hj
      · cases hj)
  have hrz : ∀ ty, (Builtin.append_ #[49, 3] ty #[.slice (some ⟨b, off, none⟩) i c, .int .i64 ((n : Int) + (m : Int) - (i : Int))]).run Try.prog w =
      .ok (.slice (some ⟨w.heap.size, 0, none⟩) (n + m) (grownCap w (n + m) c 52)) (w.drew.alloc (.cells ((cs.take i).toArray ++ Builtin.zeroCells (Value.int .u64 0).cells (n + m - i) ++ Builtin.zeroCells (Value.int .u64 0).cells (grownCap w (n + m) c 52 - (n + m))) 52)) := fun ty => by
    have h := Lib.run_append_grow_zeros w 49 3 ty 52 i0 _ .i64 .i64 Try.underlying49 Try.underlying3 hi0 hz0 (some ⟨b, off, none⟩) i c (cs.take i) hold (n + m - i) (by omega) (by omega) (by omega) (by omega) (by rw [hzb]; omega) (by rw [hzb, hik]; exact growslice_fits hroom hbig)
    rw [hik] at h
    rw [hkk]
    exact h
  obtain ⟨G, hG⟩ : ∃ G, G = grownCap w (n + m) c 52 := ⟨_, rfl⟩
  obtain ⟨ROW, hROW⟩ : ∃ ROW : Array Value, ROW = (cs.take i).toArray ++ Builtin.zeroCells (Value.int .u64 0).cells (n + m - i) ++ Builtin.zeroCells (Value.int .u64 0).cells (G - (n + m)) := ⟨_, rfl⟩
  rw [← hG] at hrz ⊢
  rw [← hROW] at hrz ⊢
  have hRl : n + m ≤ ROW.size := by
    rw [hROW]
    simp [Builtin.zeroCells, Value.cells]
    omega
  obtain ⟨W1, hW1⟩ : ∃ W1, W1 = w.drew.alloc (.cells ROW 52) := ⟨_, rfl⟩
  rw [← hW1] at hrz
  have hN : ∀ j, j < n + m → (W1.cell? ⟨w.heap.size, j, none⟩).isSome = true := fun j hj => by
    rw [hW1, World.cell?_alloc_at (w := w.drew) ROW _ w.heap.size j rfl, Array.getElem?_eq_getElem (by omega)]; rfl
  have hNf : ∀ j, W1.frozen? ⟨w.heap.size, j, none⟩ = false := fun j => by rw [hW1]; exact World.frozen?_alloc_at (w := w.drew) ROW _ w.heap.size j rfl
  have hOb : ∀ j v, w.cell? ⟨b, j, none⟩ = some v → W1.cell? ⟨b, j, none⟩ = some v := fun j v h => by rw [hW1, World.cell?_alloc_past (w := w.drew) _ b j hbw]; exact h
  have hOv : ∀ j v, w.cell? ⟨vb, j, none⟩ = some v → W1.cell? ⟨vb, j, none⟩ = some v := fun j v h => by rw [hW1, World.cell?_alloc_past (w := w.drew) _ vb j hvw]; exact h
  have hcpA : ∀ (W : World), (∀ x, W.cell? x = W1.cell? x) → (∀ x, W.frozen? x = W1.frozen? x) → ∀ ty dc, (Builtin.copy_ #[49, 49] ty #[.slice (some ⟨w.heap.size, i, none⟩) (n + m - i) dc, .slice (some ⟨vb, voff, none⟩) m vc]).run Try.prog W = .ok (goInt vs.length) (W.setCells w.heap.size i vs) := fun W hWc hWf ty dc =>
    run_copy_cells W _ _ ty 52 w.heap.size i (n + m - i) dc ⟨vb, voff, none⟩ m vc vs Try.underlying49 hsz (by rw [hvl]; simp only [Nat.min_def]; split <;> omega)
      (fun j v hj => by rw [Addr.add_lit, hWc]; exact hOv _ v (hvs j v hj))
      (fun j hj => by rw [hWc]; exact hN _ (by omega)) (fun j hj => by rw [hWf]; exact hNf _) h1v
  have hGn : n + m ≤ G := by rw [hG]; exact grownCap_ge w _ _ _
  have hG63 : G ≤ 9223372036854775807 := by
    have := grownCap_le_maxLen w (n + m) c 52 (by unfold maxLen; omega)
    rw [← hG] at this
    unfold maxLen at this
    omega
  have hGi : ¬ (G = i) := by omega
  have hGim : ¬ (G = i + m) := by omega
  have hci : ¬ (c = i) := by omega
  have hbN : b ≠ w.heap.size := by omega
  have hdl : (cs.drop i).length = n - i := by rw [List.length_drop, hcl]
  have hcpB : ∀ (W : World), (∀ x, W.cell? x = (W1.setCells w.heap.size i vs).cell? x) → (∀ x, W.frozen? x = (W1.setCells w.heap.size i vs).frozen? x) → ∀ ty dc sc, (Builtin.copy_ #[49, 49] ty #[.slice (some ⟨w.heap.size, i + m, none⟩) (n + m - (i + m)) dc, .slice (some ⟨b, off + i, none⟩) (n - i) sc]).run Try.prog W = .ok (goInt (cs.drop i).length) (W.setCells w.heap.size (i + m) (cs.drop i)) := fun W hWc hWf ty dc sc =>
    run_copy_cells W _ _ ty 52 w.heap.size (i + m) (n + m - (i + m)) dc ⟨b, off + i, none⟩ (n - i) sc (cs.drop i) Try.underlying49 hsz (by rw [hdl]; simp only [Nat.min_def]; split <;> omega)
      (fun j v hj => by
        rw [Addr.add_lit, hWc, World.cell?_setCells_out _ _ _ _ _ (fun h _ => absurd h hbN), Nat.add_assoc]
        exact hOb _ v (hcs (i + j) v (by rwa [List.getElem?_drop] at hj)))
      (fun j hj => by rw [hWc]; exact isSome_setCells _ _ _ _ (fun t ht => hN _ (by omega)) _ (hN _ (by omega)))
      (fun j hj => by rw [hWf, World.frozen?_setCells]; exact hNf _) (fun v hv => h1c v (List.mem_of_mem_drop hv))
  subst hW1
  have hE1 : ∀ x, ((w.alloc (.cells ROW 52)).drew).cell? x = (w.drew.alloc (.cells ROW 52)).cell? x := fun x => rfl
  have hE2 : ∀ x, ((w.alloc (.cells ROW 52)).drew).frozen? x = (w.drew.alloc (.cells ROW 52)).frozen? x := fun x => rfl
  have hF1 : ∀ x, (((w.alloc (.cells ROW 52)).drew.setCells w.heap.size i vs).drew).cell? x = ((w.drew.alloc (.cells ROW 52)).setCells w.heap.size i vs).cell? x := fun x => rfl
  have hF2 : ∀ x, (((w.alloc (.cells ROW 52)).drew.setCells w.heap.size i vs).drew).frozen? x = ((w.drew.alloc (.cells ROW 52)).setCells w.heap.size i vs).frozen? x := fun x => rfl
  have hw1 : IntKind.i64.wrap ((i : Int) + (m : Int)) = (i : Int) + (m : Int) := by rw [IntKind.wrap_i64]; omega
  have hb1 : (0 : Int) ≤ (i : Int) + (m : Int) := by omega
  have hin : i ≤ n := by omega
  have htn : ((i : Int) + (m : Int)).toNat = i + m := by omega
  have hb3 : (i : Int) ≤ (n : Int) := by omega
  clear hkk hik hold hROW hG hRl
  go_enter Try.func38, Try.ntmps38
  go_wp2_with (first
    | (at_builtin; refine Lib.wpList_append_run _ rfl _ _ _ _ rfl _ _ rfl rfl _ _ (hrz _) ?_)
    | (at_builtin; refine wpList_copy_runI _ rfl _ _ 49 49 rfl _ _ rfl rfl (hcpA _ hE1 hE2 _ _) ?_)
    | (at_builtin; refine wpList_copy_runI _ rfl _ _ 49 49 rfl _ _ rfl rfl (hcpB _ (fun _ => rfl) (fun _ => rfl) _ _ _) ?_))
  go_region_law (refine step_copy_runI rfl _ _ 49 49 rfl (.slice (some ⟨w.heap.size, i + m, none⟩) (n + m - (i + m)) (G - (i + m))) (.slice (some ⟨b, off + i, none⟩) (n - i) (c - i)) (by simp [Act.eval, Act.put]) (by simp [Act.eval, Act.put]) (hcpB _ hF1 hF2 3 (G - (i + m)) (c - i)) ?_)
  go_wp2
  go_ret
  exact ⟨rfl, rfl⟩
theorem ins_get {F : Array Value} {o i n : Nat} {xs : List Value} {y : Value} (hl : xs.length = n) (hi : i ≤ n) (h1 : ∀ j, j < i → F[o + j]? = xs[j]?) (h2 : F[o + i]? = some y) (h3 : ∀ j, j < n - i → F[o + (i + 1) + j]? = xs[i + j]?) (j : Nat) (hj : j < n + 1) : F[o + j]? = (xs.take i ++ y :: xs.drop i)[j]? := by
  have ht : (xs.take i).length = i := by rw [List.length_take]; omega
  by_cases c1 : j < i
  · rw [List.getElem?_append_left (by omega), List.getElem?_take, if_pos c1, h1 j c1]
  · rw [List.getElem?_append_right (by omega), ht]
    by_cases c2 : j = i
    · subst c2; rw [Nat.sub_self, h2]; rfl
    · obtain ⟨q, rfl⟩ : ∃ q, j = i + 1 + q := ⟨j - (i + 1), by omega⟩
      rw [show i + 1 + q - i = q + 1 by omega, List.getElem?_cons_succ, List.getElem?_drop, ← h3 q (by omega), show o + (i + 1 + q) = o + (i + 1) + q by omega]
theorem putAll_one {cur : Array Value} {o : Nat} {y : Value} (h : o < cur.size) : (putAll cur o [y])[o]? = some y := by
  unfold putAll putAll
  rw [Array.getElem?_setIfInBounds, if_pos rfl, if_pos h]
theorem grownBy_drew {a b : World} {row : Option Nat} (h : a.grownBy b row) : a.grownBy b.drew row := ⟨h.os, h.tape, h.output, h.size, h.block⟩
theorem keys_map (l : List Nat) : l.flatMap keyCell = l.map fun k : Nat => (.int .u64 (k : Int) : Value) := by
  induction l with
  | nil => rfl
  | cons a r ih => rw [List.flatMap_cons, ih]; rfl
/-- What an insertion tells. -/
def Put (w : World) (v : Value) (l : List Nat) (e : Ending) (w' : World) : Prop :=
  ∃ v', e = .returned v' ∧ Keys w' v' l ∧ w.grownBy w' v.ownBlock ∧ (v'.ownBlock = v.ownBlock ∨ v'.ownBlock = some w.heap.size)
set_option maxRecDepth 100000 in
set_option maxHeartbeats 4000000 in
theorem insert_end (v : Value) (l : List Nat) (x g t : Nat) (w : World) (h : Keys w v l) (hx : w.heap[g]? = some (.cells #[.int .u64 x] t (0, 0))) (hl : l.length ≤ 1000000) :
    Calls Try.prog 38 #[v, .int .i64 (l.length : Int), .slice (some ⟨g, 0, none⟩) 1 1] w (Put w v (l ++ [x])) := by
  obtain ⟨i0, hii, hz0, hz1, hz2⟩ := info_parts info_u64
  have HR : Hid (RowOf w 52 1 v l.length (l.flatMap keyCell)) := Lib.hid h
  have HX := Lib.hid hx
  have HP : Hid (∀ v' w', RowOf w' 52 1 v' (l.length + 1) (l.flatMap keyCell ++ [.int .u64 (x : Int)]) → Keys w' v' (l ++ [x])) := Lib.hid fun v' w' k => by
    unfold Keys
    rw [List.flatMap_append, List.length_append]
    exact k
  have HM1 : Hid (l.length + 1 ≤ maxLen) := Lib.hid (by unfold maxLen; omega)
  have HM2 : Hid ((l.length + 1) * 8 ≤ 140737488355328) := Lib.hid (by omega)
  rcases h.2 with ⟨rfl, h0⟩ | ⟨b, o, cap, cur, rfl, _, hcap, hmx, _, _⟩
  · rw [h0]
    clear h hx h0 hl
    go_enter Try.func38, Try.ntmps38
    go_wp2_with (at_builtin; refine wpList_append_row (by rfl) _ _ 49 (by rfl) i0 (.int .u64 0) 8 Try.underlying49 hii hz0 hz1 hz2 (by rfl) (by omega) (by rfl) HR.out (keys_one _) _ 1 [.int .u64 (x : Int)] (by rfl) (SrcOk.block HX.out rfl (fun j u hu => by rw [Nat.zero_add]; simpa using hu) (by simp [Value.oneCell'])) HM1.out HM2.out ?_; intro v' w' hv1 hv2 hv3)
    all_goals (go_ret; exact ⟨v', rfl, HP.out _ _ hv1, hv2, hv3⟩)
  · obtain ⟨n, hn⟩ : ∃ n, n = l.length := ⟨_, rfl⟩
    rw [← hn] at hl hcap HM1 HM2 HR HP ⊢
    unfold maxLen at hmx
    clear h hx hn
    go_enter Try.func38, Try.ntmps38
    go_wp2_with (at_builtin; refine wpList_append_row (by rfl) _ _ 49 (by rfl) i0 (.int .u64 0) 8 Try.underlying49 hii hz0 hz1 hz2 (by rfl) (by omega) (by rfl) HR.out (keys_one _) _ 1 [.int .u64 (x : Int)] (by rfl) (SrcOk.block HX.out rfl (fun j u hu => by rw [Nat.zero_add]; simpa using hu) (by simp [Value.oneCell'])) HM1.out HM2.out ?_; intro v' w' hv1 hv2 hv3)
    all_goals (go_ret; exact ⟨v', rfl, HP.out _ _ hv1, hv2, hv3⟩)
set_option maxRecDepth 100000 in
set_option maxHeartbeats 4000000 in
theorem insert_any (v : Value) (l : List Nat) (x i g t : Nat) (w : World) (h : Keys w v l) (hi : i ≤ l.length) (hx : w.heap[g]? = some (.cells #[.int .u64 x] t (0, 0))) (hne : v.ownBlock ≠ some g) (hl : l.length ≤ 1000000) :
    Calls Try.prog 38 #[v, .int .i64 (i : Int), .slice (some ⟨g, 0, none⟩) 1 1] w (Put w v (l.take i ++ x :: l.drop i)) := by
  by_cases hin : i = l.length
  · subst hin
    rw [List.take_length, List.drop_length]
    exact insert_end v l x g t w h hx hl
  have hin' : i < l.length := by omega
  have h' := h
  obtain ⟨hlen, h2⟩ := h'
  rcases h2 with ⟨rfl, h0⟩ | ⟨b, o, cap, cur, rfl, hb, hc, hm, hs, hk⟩
  · omega
  have hbg : g ≠ b := fun e => hne (by rw [e]; rfl)
  obtain ⟨cs, hcs⟩ : ∃ cs, cs = l.flatMap keyCell := ⟨_, rfl⟩
  have hcl : cs.length = l.length := by rw [hcs, hlen, Nat.mul_one]
  have hk' : ∀ j, j < l.length → cur[o + j]? = cs[j]? := fun j hj => by rw [hcs]; exact hk j (by omega)
  have hone : ∀ v ∈ cs, v.oneCell' = true := by rw [hcs]; exact keys_one l
  have hcell : ∀ j v, cs[j]? = some v → w.cell? ⟨b, o + j, none⟩ = some v := fun j v hj => by
    rw [blk_cell hb, hk' j (by rw [← hcl]; exact (List.getElem?_eq_some_iff.1 hj).1)]
    exact hj
  have hvs : ∀ j v, [Value.int .u64 (x : Int)][j]? = some v → w.cell? ⟨g, 0 + j, none⟩ = some v := fun j v hj => by
    rw [blk_cell hx, Nat.zero_add]
    simpa using hj
  have hres : l.take i ++ x :: l.drop i = l.take i ++ x :: l.drop i → (l.take i ++ x :: l.drop i).flatMap keyCell = cs.take i ++ .int .u64 (x : Int) :: cs.drop i := fun _ => by
    rw [hcs, keys_map, keys_map, List.map_append, List.map_cons, List.map_take, List.map_drop]
  have hres := hres rfl
  have hlen2 : (l.take i ++ x :: l.drop i).length = l.length + 1 := by
    rw [List.length_append, List.length_cons, List.length_take, List.length_drop]; omega
  have hlen3 : (cs.take i ++ .int .u64 (x : Int) :: cs.drop i).length = (l.length + 1) * 1 := by
    rw [List.length_append, List.length_cons, List.length_take, List.length_drop]; omega
  have hdl : (cs.drop i).length = l.length - i := by rw [List.length_drop, hcl]
  have h1v : ∀ v ∈ [Value.int .u64 (x : Int)], v.oneCell' = true := fun v hv => by
    simp at hv; subst hv; rfl
  by_cases hroom : l.length + 1 ≤ cap
  · refine (shift_ins b o l.length cap i g 0 1 1 cs [.int .u64 (x : Int)] w hin' (by omega) hroom (by unfold maxLen at hm; omega) hbg hcl rfl hcell
      (fun j hj => by rw [blk_cell hb, Array.getElem?_eq_getElem (by omega)]; rfl) (fun j _ => blk_frozen hb _) hvs hone h1v t 52 1 cur.size
      (by simp [World.shape?, hx]) (by simp [World.shape?, hb]) (by omega) (blk_frozen hx _) (blk_frozen hx _)).mono ?_
    rintro e w' ⟨rfl, rfl⟩
    have hb1 := heap_setCells_block b 52 (0, 0) (cs.drop i) (o + (i + 1)) w.drew cur hb
    have hb2 := heap_setCells_block b 52 (0, 0) [.int .u64 (x : Int)] (o + i) _ _ hb1
    have hg1 : w.grownBy (w.drew.setCells b (o + (i + 1)) (cs.drop i)) (some b) := have hh := grownBy_setCells b (cs.drop i) (o + (i + 1)) w.drew; ⟨hh.os, hh.tape, hh.output, hh.size, hh.block⟩
    refine ⟨_, rfl, ?_, grownBy_trans hg1 (grownBy_setCells b _ _ _), .inl rfl⟩
    unfold Keys
    rw [hres, hlen2]
    refine ⟨hlen3, .inr ⟨b, o, cap, _, rfl, hb2, hroom, hm, by rw [size_putAll, size_putAll]; exact hs, fun j hj => ?_⟩⟩
    refine ins_get hcl hi (fun j hj => ?_) ?_ (fun j hj => ?_) j (by omega)
    · rw [putAll_out _ _ _ _ (by omega), putAll_out _ _ _ _ (by omega), hk' j (by omega)]
    · exact putAll_one (by rw [size_putAll]; omega)
    · rw [putAll_out _ _ _ _ (by simp; omega), putAll_in _ _ _ _ (by omega) (by omega), List.getElem?_drop]
  · have hgl := grownCap_ge w (l.length + 1) cap 52
    have hgm : grownCap w (l.length + 1) cap 52 ≤ maxLen := grownCap_le_maxLen w _ _ _ (by unfold maxLen; omega)
    refine (grow_ins b o l.length cap i g 0 1 1 cs [.int .u64 (x : Int)] w hin' (by omega) hc (by omega) (by omega) hcl rfl hcell hvs hone h1v).mono ?_
    rintro e w' ⟨rfl, rfl⟩
    obtain ⟨G, hG⟩ : ∃ G, G = grownCap w (l.length + 1) cap 52 := ⟨_, rfl⟩
    rw [← hG] at hgl hgm ⊢
    obtain ⟨R, hR⟩ : ∃ R, R = (cs.take i).toArray ++ Builtin.zeroCells (Value.int .u64 0).cells (l.length + 1 - i) ++ Builtin.zeroCells (Value.int .u64 0).cells (G - (l.length + 1)) := ⟨_, rfl⟩
    rw [← hR]
    have hRs : R.size = G := by
      rw [hR]
      simp only [Array.size_append, List.size_toArray, size_zeroCells, List.length_take, hcl, Value.cells, List.length_cons, List.length_nil]
      omega
    have hb0 := heap_alloc_new w (.cells R 52)
    have hb1 := heap_setCells_block w.heap.size 52 (0, 0) [.int .u64 (x : Int)] i (w.alloc (.cells R 52)).drew R hb0
    have hb2 := heap_setCells_block w.heap.size 52 (0, 0) (cs.drop i) (i + 1) (((w.alloc (.cells R 52)).drew.setCells w.heap.size i [.int .u64 (x : Int)]).drew) _ hb1
    refine ⟨_, rfl, ?_, ?_, .inr rfl⟩
    · unfold Keys
      rw [hres, hlen2]
      refine ⟨hlen3, .inr ⟨w.heap.size, 0, G, _, rfl, hb2, hgl, hgm, by rw [size_putAll, size_putAll]; omega, fun j hj => ?_⟩⟩
      refine ins_get hcl hi (fun j hj => ?_) ?_ (fun j hj => ?_) j (by omega)
      · rw [putAll_out _ _ _ _ (by omega), putAll_out _ _ _ _ (by omega), hR, Nat.zero_add, Array.append_assoc, Array.getElem?_append_left (by simp [List.length_take]; omega)]
        simp [List.getElem?_take, hj]
      · rw [putAll_out _ _ _ _ (by omega), Nat.zero_add]
        exact putAll_one (by omega)
      · rw [Nat.zero_add, putAll_in _ _ _ _ (by omega) (by rw [size_putAll]; omega), List.getElem?_drop]
    · have g1 : w.grownBy (w.alloc (.cells R 52)) (some b) := ⟨rfl, rfl, rfl, by simp, fun k hk _ => Below.heap_alloc w _ k hk⟩
      have g2 : ∀ (W : World) (o : Nat) (vs : List Value), w.grownBy W (some b) → w.grownBy (W.setCells w.heap.size o vs) (some b) := fun W o vs hW =>
        have hS := grownBy_setCells w.heap.size vs o W
        ⟨hS.os.trans hW.os, hS.tape.trans hW.tape, hS.output.trans hW.output, Nat.le_trans hW.size hS.size, fun k hk hn => (hS.block k (Nat.lt_of_lt_of_le hk hW.size) (fun e => by cases e; omega)).trans (hW.block k hk hn)⟩
      exact g2 _ _ _ (grownBy_drew (g2 _ _ _ (grownBy_drew g1)))
end Go.Proofs.Ytpjlplkoiedhjaa
