/-
  The film in memory: New, Add.
-/
import Derived.Test.YtlklbdnlpljaiaaDoorFmH
import Derived.Test.YtlklbdnlpljaiaaDoorPart
import Derived.Test.YtlklbdnlpljaiaaDoorFlat
namespace Go.Proofs.YtlklbdnlpljaiaaDoor
open Go.RowKit Go.Shoal

theorem Tryd.infoEv : (Tryd.prog.info? 31).map (fun i => (i.zero, i.size, i.bytes)) = some (some ((.agg #[.int .i64 0, .int .i64 0, .int .i64 0, .int .u64 0, .int .u64 0, .int .i64 0, .float .f64 0, .int .u64 0, .int .i64 0])), 9, 72) := by kernel_rfl
def evFlat (l : List Ev) : List Value := l.flatMap Ev.cells
theorem ev_len (l : List Ev) : (evFlat l).length = l.length * 9 := flat_len (f := Ev.cells) (C := 9) (fun _ => rfl) l
theorem ev_one (l : List Ev) : ∀ u ∈ evFlat l, u.oneCell' = true := by
  intro u hu
  obtain ⟨m, _, hm⟩ := List.mem_flatMap.1 hu
  unfold Ev.cells at hm
  simp only [List.mem_cons, List.not_mem_nil, or_false] at hm
  rcases hm with rfl | rfl | rfl | rfl | rfl | rfl | rfl | rfl | rfl <;> rfl
theorem src_nine (w : World) (l : List Value) {t : Nat} (h : ∀ u ∈ l, u.oneCell' = true) (hl : l.length = 1 * 9 := by rfl) : SrcOk (w.alloc (.cells l.toArray t)) (.slice (some ⟨w.heap.size, 0, none⟩) 1 1) 1 9 l :=
  SrcOk.block (blk_new w _) (by simpa using hl) (fun j u hu => by rw [Nat.zero_add]; simpa using hu) h
/-- A slice of events. -/
def EvRow (w : World) (v : Value) (l : List Ev) : Prop := RowOf w 31 9 v l.length (evFlat l)
/-- A film at B, whose row was made at or past base. -/
structure FilmAt (w : World) (base B : Nat) (l : List Ev) (v : Value) : Prop where
  top : w.heap[B]? = some (.cells #[v] 54 (0, 0))
  row : EvRow w v l
  own : ∀ q, v.ownBlock = some q → base ≤ q ∧ q ≠ B
  bb : base ≤ B
theorem FilmAt.mod {S : Nat → Prop} {w w' : World} {base B : Nat} {l : List Ev} {v : Value} (h : FilmAt w base B l v) (hm : Mod S w w') (hs : ∀ k, base ≤ k → ¬ S k) : FilmAt w' base B l v :=
  ⟨hm.blk h.top (hs B h.bb), RowOf.mod h.row hm (fun b hb => hs b (h.own b hb).1), h.own, h.bb⟩
theorem FilmAt.none {w w' : World} {base B : Nat} {l : List Ev} {v : Value} (h : FilmAt w base B l v) (hm : Mod (fun _ => False) w w') : FilmAt w' base B l v := h.mod hm (fun _ _ x => x)
theorem add_cells {w : World} {B X : Nat} {u k p f n d v x g r : Value} {s t : Nat} (h : w.heap[B]? = some (.cells #[u] s (0, 0))) (hx : w.heap[X]? = some (.cells #[k, p, f, n, d, v, x, g, r] t (0, 0))) :
    w.cell? ⟨B, 0, none⟩ = some u ∧ w.frozen? ⟨B, 0, none⟩ = false ∧ w.cell? ⟨X, 0, none⟩ = some k ∧ w.cell? ⟨X, 1, none⟩ = some p ∧ w.cell? ⟨X, 2, none⟩ = some f ∧ w.cell? ⟨X, 3, none⟩ = some n ∧ w.cell? ⟨X, 4, none⟩ = some d ∧ w.cell? ⟨X, 5, none⟩ = some v ∧ w.cell? ⟨X, 6, none⟩ = some x ∧ w.cell? ⟨X, 7, none⟩ = some g ∧ w.cell? ⟨X, 8, none⟩ = some r :=
  ⟨(blk_cell h 0).trans rfl, blk_frozen h 0, (blk_cell hx 0).trans rfl, (blk_cell hx 1).trans rfl, (blk_cell hx 2).trans rfl, (blk_cell hx 3).trans rfl, (blk_cell hx 4).trans rfl, (blk_cell hx 5).trans rfl, (blk_cell hx 6).trans rfl, (blk_cell hx 7).trans rfl, (blk_cell hx 8).trans rfl⟩
theorem new_any (w : World) : Calls Tryd.prog 8 #[] w fun e w' => e = .returned (.pointer (some ⟨w.heap.size, 0, none⟩)) ∧ w' = w.alloc (.cells #[.slice none 0 0] 54) := by
  go_enter Tryd.func8, Tryd.ntmps8
  go_wp2
  go_ret
  exact ⟨rfl, rfl⟩
theorem film_new (w : World) (base : Nat) (hb : base ≤ w.heap.size) : FilmAt (w.alloc (.cells #[.slice none 0 0] 54)) base w.heap.size [] (.slice none 0 0) :=
  ⟨blk_new w _, RowOf.nil _ _ _, fun q hq => (by cases hq), hb⟩
/-- What Add leaves. -/
def Added (w : World) (base B : Nat) (l : List Ev) (e : Ending) (w' : World) : Prop := e = .returned (.tuple #[]) ∧ (∃ v, FilmAt w' base B l v) ∧ Mod (fun k => base ≤ k) w w'
theorem ev_snoc (l : List Ev) (e : Ev) : evFlat (l ++ [e]) = evFlat l ++ e.cells := by simp [evFlat, List.flatMap_append]
set_option maxRecDepth 100000 in
set_option maxHeartbeats 8000000 in
theorem add_any (base B : Nat) (l : List Ev) (av : Value) (e : Ev) (w : World) (h : FilmAt w base B l av) (hl : l.length ≤ 1000) :
    Calls Tryd.prog 9 #[.pointer (some ⟨B, 0, none⟩), e.agg] w (Added w base B (l ++ [e])) := by
  obtain ⟨i0, hii, hz0, hz1, hz2⟩ := info_parts Tryd.infoEv
  obtain ⟨htop, hrow, hown, hbb⟩ := h
  obtain ⟨A, c, rfl⟩ := RowOf.form hrow
  have hBlt := blk_lt htop
  have HES := Lib.hid (ev_snoc l e)
  obtain ⟨k, p, f, n, d, v, x, g, r⟩ := e
  show Calls Tryd.prog 9 #[.pointer (some ⟨B, 0, none⟩), .agg #[.int .i64 k, .int .i64 p, .int .i64 f, .int .u64 n, .int .u64 d, .int .i64 v, .float .f64 x, .int .u64 g, .int .i64 r]] w _
  have HB0 : Hid ((w.alloc (.cells #[.int .i64 k, .int .i64 p, .int .i64 f, .int .u64 n, .int .u64 d, .int .i64 v, .float .f64 x, .int .u64 g, .int .i64 r] 31)).heap[B]? = some (.cells #[.slice A l.length c] 54 (0, 0))) := blk_alloc htop _
  have HX0 : Hid ((w.alloc (.cells #[.int .i64 k, .int .i64 p, .int .i64 f, .int .u64 n, .int .u64 d, .int .i64 v, .float .f64 x, .int .u64 g, .int .i64 r] 31)).heap[w.heap.size]? = some (.cells #[.int .i64 k, .int .i64 p, .int .i64 f, .int .u64 n, .int .u64 d, .int .i64 v, .float .f64 x, .int .u64 g, .int .i64 r] 31 (0, 0))) := blk_new w _
  have HR0 : Hid (RowOf (w.alloc (.cells #[.int .i64 k, .int .i64 p, .int .i64 f, .int .u64 n, .int .u64 d, .int .i64 v, .float .f64 x, .int .u64 g, .int .i64 r] 31)) 31 9 (.slice A l.length c) l.length (evFlat l)) := RowOf.alloc hrow _
  have HNB : Hid (∀ q, (Value.slice A l.length c).ownBlock = some q → B ≠ q) := fun q hq e => (hown q hq).2 e.symm
  have HNX : Hid (∀ q, (Value.slice A l.length c).ownBlock = some q → w.heap.size ≠ q) := fun q hq e => by have := RowOf.lt hrow hq; omega
  have HOW := Lib.hid hown
  have HL := Lib.hid hl
  have HMW : Hid (Mod (fun _ => False) w (w.alloc (.cells #[.int .i64 k, .int .i64 p, .int .i64 f, .int .u64 n, .int .u64 d, .int .i64 v, .float .f64 x, .int .u64 g, .int .i64 r] 31))) := (Mod.refl _ _).alloc _
  have HSZ : Hid ((w.alloc (.cells #[.int .i64 k, .int .i64 p, .int .i64 f, .int .u64 n, .int .u64 d, .int .i64 v, .float .f64 x, .int .u64 g, .int .i64 r] 31)).heap.size = w.heap.size + 1) := by show _ = _; simp
  have HBL := Lib.hid hBlt
  have HBB := Lib.hid hbb
  clear htop hrow hown hl hBlt hbb
  have b0 := (add_cells HB0.out HX0.out).1
  go_enter Tryd.func9, Tryd.ntmps9
  go_wp2
  clear b0
  generalize w.alloc (.cells #[.int .i64 k, .int .i64 p, .int .i64 f, .int .u64 n, .int .u64 d, .int .i64 v, .float .f64 x, .int .u64 g, .int .i64 r] 31) = W0 at *
  refine wp_region_part (S := fun w' => w'.cell? ⟨B, 0, none⟩ = some (.slice A l.length c) ∧ w'.frozen? ⟨B, 0, none⟩ = false ∧ w'.cell? ⟨w.heap.size, 0, none⟩ = some (.int .i64 k) ∧ w'.cell? ⟨w.heap.size, 1, none⟩ = some (.int .i64 p) ∧ w'.cell? ⟨w.heap.size, 2, none⟩ = some (.int .i64 f) ∧ w'.cell? ⟨w.heap.size, 3, none⟩ = some (.int .u64 n) ∧ w'.cell? ⟨w.heap.size, 4, none⟩ = some (.int .u64 d) ∧ w'.cell? ⟨w.heap.size, 5, none⟩ = some (.int .i64 v) ∧ w'.cell? ⟨w.heap.size, 6, none⟩ = some (.float .f64 x) ∧ w'.cell? ⟨w.heap.size, 7, none⟩ = some (.int .u64 g) ∧ w'.cell? ⟨w.heap.size, 8, none⟩ = some (.int .i64 r)) [10] (by kernel_rfl) ?_ (fun hHeld => ?_)
  · exact add_cells (w := W0.drew) HB0.out HX0.out
  have HU0 : Hid (Mod (fun _ => False) w W0.drew) := HMW.out.drew
  have HB1 : Hid (W0.drew.heap[B]? = some (.cells #[.slice A l.length c] 54 (0, 0))) := HB0.out
  have HX1 : Hid (W0.drew.heap[w.heap.size]? = some (.cells #[.int .i64 k, .int .i64 p, .int .i64 f, .int .u64 n, .int .u64 d, .int .i64 v, .float .f64 x, .int .u64 g, .int .i64 r] 31 (0, 0))) := HX0.out
  have HR1 : Hid (RowOf W0.drew 31 9 (.slice A l.length c) l.length (evFlat l)) := HR0.out
  generalize W0.drew = u0 at *
  refine wpPart_take (i := 0) (oi := { dst := some 4, op := Op.move (Operand.tmp 0), type := 24, pos := "film.go:45", after := #[], guard := none }) (v := ?_) rfl (by kernel_rfl) (by kernel_rfl) (by kernel_rfl) (by kernel_rfl) (by kernel_rfl) (fun _ _ _ h => h) (Or.inl ⟨by rfl, ?_⟩) (by assumption) ?_
  rotate_left
  · intro w hSw; (try dsimp only at hSw); go_simp <;> with_reducible rfl
  try simp only [Act.put, List.setIfInBounds_toArray, List.set_cons_zero, List.set_cons_succ]
  refine wpPart_take (i := 1) (oi := { dst := some 5, op := Op.move (Operand.tmp 0), type := 24, pos := "film.go:45", after := #[], guard := none }) (v := ?_) rfl (by kernel_rfl) (by kernel_rfl) (by kernel_rfl) (by kernel_rfl) (by kernel_rfl) (fun _ _ _ h => h) (Or.inl ⟨by rfl, ?_⟩) (by assumption) ?_
  rotate_left
  · intro w hSw; (try dsimp only at hSw); go_simp <;> with_reducible rfl
  try simp only [Act.put, List.setIfInBounds_toArray, List.set_cons_zero, List.set_cons_succ]
  refine wpPart_take (i := 2) (oi := { dst := some 6, op := Op.nilCheck (Operand.tmp 5), type := 0, pos := "film.go:45", after := #[{ on := 1, ground := Ground.data }], guard := none }) (v := ?_) rfl (by kernel_rfl) (by kernel_rfl) (by kernel_rfl) (by kernel_rfl) (by kernel_rfl) (fun _ _ _ h => h) (Or.inl ⟨by rfl, ?_⟩) (by assumption) ?_
  rotate_left
  · intro w hSw; (try dsimp only at hSw); go_simp <;> with_reducible rfl
  try simp only [Act.put, List.setIfInBounds_toArray, List.set_cons_zero, List.set_cons_succ]
  refine wpPart_take (i := 3) (oi := { dst := some 7, op := Op.fieldAddr 54 (Operand.tmp 6) 0, type := 0, pos := "film.go:45", after := #[{ on := 2, ground := Ground.data }], guard := none }) (v := ?_) rfl (by kernel_rfl) (by kernel_rfl) (by kernel_rfl) (by kernel_rfl) (by kernel_rfl) (fun _ _ _ h => h) (Or.inl ⟨by rfl, ?_⟩) (by assumption) ?_
  rotate_left
  · intro w hSw; (try dsimp only at hSw); go_simp <;> with_reducible rfl
  try simp only [Act.put, List.setIfInBounds_toArray, List.set_cons_zero, List.set_cons_succ]
  refine wpPart_take (i := 4) (oi := { dst := some 8, op := Op.load 22 (Operand.tmp 7), type := 22, pos := "film.go:45", after := #[{ on := 3, ground := Ground.data }], guard := none }) (v := ?_) rfl (by kernel_rfl) (by kernel_rfl) (by kernel_rfl) (by kernel_rfl) (by kernel_rfl) (fun _ _ _ h => h) (Or.inl ⟨by rfl, ?_⟩) (by assumption) ?_
  rotate_left
  · intro w hSw; (try dsimp only at hSw); go_simp <;> with_reducible rfl
  try simp only [Act.put, List.setIfInBounds_toArray, List.set_cons_zero, List.set_cons_succ]
  refine wpPart_take (i := 5) (oi := { dst := some 9, op := Op.load 31 (Operand.tmp 3), type := 31, pos := "film.go:45", after := #[], guard := none }) (v := ?_) rfl (by kernel_rfl) (by kernel_rfl) (by kernel_rfl) (by kernel_rfl) (by kernel_rfl) (fun _ _ _ h => h) (Or.inl ⟨by rfl, ?_⟩) (by assumption) ?_
  rotate_left
  · intro w hSw; (try dsimp only at hSw); go_simp <;> with_reducible rfl
  try simp only [Act.put, List.setIfInBounds_toArray, List.set_cons_zero, List.set_cons_succ]
  refine wpPart_ready (rs := [6]) (by kernel_rfl) (by simp) ?_
  refine AllPart.cons (o := { dst := some 10, op := Op.buildSlice 22 1 #[(0, Operand.tmp 9)], type := 22, pos := "film.go:45", after := #[{ on := 5, ground := Ground.data }], guard := none }) rfl (by kernel_rfl) (fun K hK => ?_) AllPart.nil
  go_simp
  refine hK.out _ _ ?_ (fun hHeld => ?_)
  · first | exact hS1 | exact add_cells (blk_alloc HB1.out _) (blk_alloc HX1.out _)
  clear hK K
  try simp only [Act.put, List.setIfInBounds_toArray, List.set_cons_zero, List.set_cons_succ]
  refine wpPart_ready (rs := [7]) (by kernel_rfl) (by simp) ?_
  refine AllPart.cons (o := { dst := some 11, op := Op.call { callee := Callee.builtin Builtin.append, args := #[Operand.tmp 8, Operand.tmp 10], argTypes := #[22, 22] }, type := 22, pos := "film.go:45", after := #[{ on := 4, ground := Ground.data }, { on := 6, ground := Ground.data }], guard := none }) rfl (by kernel_rfl) (fun K hK => ?_) AllPart.nil
  refine step_append_row (by rfl) _ _ 22 (by rfl) i0 (.agg #[.int .i64 0, .int .i64 0, .int .i64 0, .int .u64 0, .int .u64 0, .int .i64 0, .float .f64 0, .int .u64 0, .int .i64 0]) 72 Tryd.underlying22 hii hz0 hz1 hz2 (by rfl) (by omega) (by rfl) (HR1.out.alloc _) (ev_one _) _ 1 [.int .i64 k, .int .i64 p, .int .i64 f, .int .u64 n, .int .u64 d, .int .i64 v, .float .f64 x, .int .u64 g, .int .i64 r] (by rfl) (src_nine _ _ (by simp [Value.oneCell'])) (by have := HL.out; unfold maxLen; omega) (by have := HL.out; omega) ?_
  intro av2 u2 hrow hgrow hat
  have hS1 := add_cells (blk_grown (blk_alloc HB1.out _) hgrow HNB.out) (blk_grown (blk_alloc HX1.out _) hgrow HNX.out)
  obtain ⟨A5, k5, rfl⟩ := hrow.form
  refine hK.out _ _ ?_ (fun hHeld => ?_)
  · first | exact hS1 | exact add_cells (blk_alloc HB1.out _) (blk_alloc HX1.out _)
  clear hK K
  try simp only [Act.put, List.setIfInBounds_toArray, List.set_cons_zero, List.set_cons_succ]
  clear hS1
  refine wpPart_ready (rs := [8]) (by kernel_rfl) (by simp) ?_
  refine AllPart.cons (o := { dst := some 12, op := Op.nilCheck (Operand.tmp 4), type := 0, pos := "film.go:45", after := #[{ on := 0, ground := Ground.data }, { on := 0, ground := Ground.phase }, { on := 1, ground := Ground.phase }, { on := 2, ground := Ground.phase }, { on := 3, ground := Ground.phase }, { on := 4, ground := Ground.phase }, { on := 5, ground := Ground.phase }, { on := 6, ground := Ground.phase }, { on := 7, ground := Ground.phase }], guard := none }) rfl (by kernel_rfl) (fun K hK => ?_) AllPart.nil
  go_simp
  refine hK.out _ _ ?_ (fun hHeld => ?_)
  · assumption
  clear hK K
  try simp only [Act.put, List.setIfInBounds_toArray, List.set_cons_zero, List.set_cons_succ]
  refine wpPart_take (i := 9) (oi := { dst := some 13, op := Op.fieldAddr 54 (Operand.tmp 12) 0, type := 0, pos := "film.go:45", after := #[{ on := 8, ground := Ground.data }, { on := 0, ground := Ground.phase }, { on := 1, ground := Ground.phase }, { on := 2, ground := Ground.phase }, { on := 3, ground := Ground.phase }, { on := 4, ground := Ground.phase }, { on := 5, ground := Ground.phase }, { on := 6, ground := Ground.phase }, { on := 7, ground := Ground.phase }], guard := none }) (v := ?_) rfl (by kernel_rfl) (by kernel_rfl) (by kernel_rfl) (by kernel_rfl) (by kernel_rfl) (fun _ _ _ h => h) (Or.inl ⟨by rfl, ?_⟩) (by assumption) ?_
  rotate_left
  · intro w hSw; (try dsimp only at hSw); go_simp <;> with_reducible rfl
  try simp only [Act.put, List.setIfInBounds_toArray, List.set_cons_zero, List.set_cons_succ]
  refine wpPart_ready (rs := [10]) (by kernel_rfl) (by simp) ?_
  refine AllPart.last (o := { dst := none, op := Op.store 22 (Operand.tmp 13) (Operand.tmp 11), type := 0, pos := "film.go:45", after := #[{ on := 9, ground := Ground.data }, { on := 7, ground := Ground.data }, { on := 7, ground := Ground.chain }, { on := 0, ground := Ground.phase }, { on := 1, ground := Ground.phase }, { on := 2, ground := Ground.phase }, { on := 3, ground := Ground.phase }, { on := 4, ground := Ground.phase }, { on := 5, ground := Ground.phase }, { on := 6, ground := Ground.phase }, { on := 7, ground := Ground.phase }], guard := none }) rfl (by kernel_rfl) (fun K hK => ?_) AllPart.nil
  have hc := hHeld.1
  have hf := hHeld.2.1
  go_simp
  refine hK.out _ _ ?_
  clear hK K
  try simp only [Act.put, List.setIfInBounds_toArray, List.set_cons_zero, List.set_cons_succ]
  clear hc hf
  refine wpPart_done (by kernel_rfl) ?_ _
  have hb2 := blk_grown (blk_alloc HB1.out _) hgrow HNB.out
  have hb3 := (blk_set hb2 0 (.slice A5 (l.length + 1) k5)).trans rfl
  have hM0 := HU0.out.alloc (.cells #[.int .i64 k, .int .i64 p, .int .i64 f, .int .u64 n, .int .u64 d, .int .i64 v, .float .f64 x, .int .u64 g, .int .i64 r] 31)
  have hmg : Mod (fun k => base ≤ k) w u2 := by
    refine ⟨hgrow.os.trans hM0.os, hgrow.tape.trans hM0.tape, hgrow.output.trans hM0.output, Nat.le_trans hM0.size hgrow.size, fun i hi hs => ?_⟩
    rw [hgrow.block i (Nat.lt_of_lt_of_le hi hM0.size) (fun e => hs (HOW.out i e.symm).1)]
    exact hM0.block i hi (fun x => x)
  have hown2 : ∀ q, (Value.slice A5 (l.length + 1) k5).ownBlock = some q → base ≤ q ∧ q ≠ B := fun q hq => by
    rcases hat with e | e
    · rw [e] at hq
      exact HOW.out q hq
    · rw [e] at hq
      cases hq
      have h1 := HU0.out.size
      have h2 := HBL.out
      have h3 := HBB.out
      have e2 : (u0.alloc (.cells #[.int .i64 k, .int .i64 p, .int .i64 f, .int .u64 n, .int .u64 d, .int .i64 v, .float .f64 x, .int .u64 g, .int .i64 r] 31)).heap.size = u0.heap.size + 1 := by simp
      rw [e2]
      exact ⟨by omega, by omega⟩
  have hrow3 : EvRow (u2.setCell ⟨B, 0, none⟩ (.slice A5 (l.length + 1) k5)) (.slice A5 (l.length + 1) k5) (l ++ [⟨k, p, f, n, d, v, x, g, r⟩]) := by
    unfold EvRow
    rw [HES.out, List.length_append]
    exact RowOf.mod (S := fun b => b = B) hrow ((Mod.refl (fun b => b = B) u2).set (p := ⟨B, 0, none⟩) (fun _ => rfl) _) (fun b hb e => (hown2 b hb).2 e)
  have HE : Hid (Added w base B (l ++ [⟨k, p, f, n, d, v, x, g, r⟩]) (.returned (.tuple #[])) (u2.setCell ⟨B, 0, none⟩ (.slice A5 (l.length + 1) k5))) :=
    ⟨rfl, ⟨_, hb3, hrow3, hown2, HBB.out⟩, hmg.set (fun _ => HBB.out) _⟩
  clear hb2 hb3 hM0 hmg hown2 hrow3 hrow hgrow hat
  go_wp2
  go_end0
  exact HE.out
end Go.Proofs.YtlklbdnlpljaiaaDoor
