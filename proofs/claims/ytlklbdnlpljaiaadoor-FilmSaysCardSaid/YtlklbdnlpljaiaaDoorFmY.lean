/-
  FilmSays: a sharper Add; the rows beside the film.
-/
import Derived.Test.YtlklbdnlpljaiaaDoorFmX
import Derived.Test.YtlklbdnlpljaiaaDoorFmM
import Derived.Test.YtlklbdnlpljaiaaDoorFmT
import Derived.ChangeKeysEq
import Derived.Laws.StructEq
namespace Go.Proofs.YtlklbdnlpljaiaaDoor
open Go.RowKit Go.Shoal

/-- What Add leaves, and which blocks it touches. -/
def AddedS (w : World) (base B : Nat) (l : List Ev) (av : Value) (e : Ending) (w' : World) : Prop := e = .returned (.tuple #[]) ∧ (∃ v, FilmAt w' base B l v) ∧ Mod (fun q => q = B ∨ av.ownBlock = some q) w w'
set_option maxRecDepth 100000 in
set_option maxHeartbeats 8000000 in
theorem add_sharp (base B : Nat) (l : List Ev) (av : Value) (e : Ev) (w : World) (h : FilmAt w base B l av) (hl : l.length ≤ 1000) :
    Calls Tryd.prog 9 #[.pointer (some ⟨B, 0, none⟩), e.agg] w (AddedS w base B (l ++ [e]) av) := by
  obtain ⟨i0, hii, hz0, hz1, hz2⟩ := info_parts Tryd.infoEv
  obtain ⟨htop, hrow, hown, hbb⟩ := h
  obtain ⟨A, c, rfl⟩ := RowOf.form hrow
  have hBlt := blk_lt htop
  have HES := Lib.hid (ev_snoc l e)
  obtain ⟨k, p, f, n, d, v, x, g, r⟩ := e
  show Calls Tryd.prog 9 #[.pointer (some ⟨B, 0, none⟩), .agg #[.int .i64 k, .int .i64 p, .int .i64 f, .int .u64 n, .int .u64 d, .int .i64 v, .float .f64 x, .int .u64 g, .int .i64 r]] w _
  have HB0 : Hid ((w.alloc (.cells #[.int .i64 k, .int .i64 p, .int .i64 f, .int .u64 n, .int .u64 d, .int .i64 v, .float .f64 x, .int .u64 g, .int .i64 r] 31)).heap[B]? = some (.cells #[.slice A l.length c] 54 (0, 0))) := blk_alloc htop _
  have HX0 : Hid ((w.alloc (.cells #[.int .i64 k, .int .i64 p, .int .i64 f, .int .u64 n, .int .u64 d, .int .i64 v, .float .f64 x, .int .u64 g, .int .i64 r] 31)).heap[w.heap.size]? = some (.cells #[.int .i64 k, .int .i64 p, .int .i64 f, .int .u64 n, .int .u64 d, .int .i64 v, .float .f64 x, .int .u64 g, .int .i64 r] 31 (0, 0))) := blk_new w _
  have HR0 : Hid (RowOf (w.alloc (.cells #[.int .i64 k, .int .i64 p, .int .i64 f, .int .u64 n, .int .u64 d, .int .i64 v, .float .f64 x, .int .u64 g, .int .i64 r] 31)) 31 9 (.slice A l.length c) l.length (evFlat l)) := RowOf.alloc hrow _
  have HNB : Hid (∀ q, (Value.slice A l.length c).ownBlock = some q → B ≠ q) := fun q hq e => (hown q hq).2 e.symm
  have HNX : Hid (∀ q, (Value.slice A l.length c).ownBlock = some q → w.heap.size ≠ q) := fun q hq e => by have := RowOf.lt hrow hq; omega
  have HOW := Lib.hid hown
  have HL := Lib.hid hl
  have HMW : Hid (Mod (fun _ => False) w (w.alloc (.cells #[.int .i64 k, .int .i64 p, .int .i64 f, .int .u64 n, .int .u64 d, .int .i64 v, .float .f64 x, .int .u64 g, .int .i64 r] 31))) := (Mod.refl _ _).alloc _
  have HSZ : Hid ((w.alloc (.cells #[.int .i64 k, .int .i64 p, .int .i64 f, .int .u64 n, .int .u64 d, .int .i64 v, .float .f64 x, .int .u64 g, .int .i64 r] 31)).heap.size = w.heap.size + 1) := by show _ = _; simp
  have HBL := Lib.hid hBlt
  have HBB := Lib.hid hbb
  clear htop hrow hown hl hBlt hbb
  have b0 := (add_cells HB0.out HX0.out).1
  go_enter Tryd.func9, Tryd.ntmps9
  go_wp2
  clear b0
  generalize w.alloc (.cells #[.int .i64 k, .int .i64 p, .int .i64 f, .int .u64 n, .int .u64 d, .int .i64 v, .float .f64 x, .int .u64 g, .int .i64 r] 31) = W0 at *
  refine wp_region_part (S := fun w' => w'.cell? ⟨B, 0, none⟩ = some (.slice A l.length c) ∧ w'.frozen? ⟨B, 0, none⟩ = false ∧ w'.cell? ⟨w.heap.size, 0, none⟩ = some (.int .i64 k) ∧ w'.cell? ⟨w.heap.size, 1, none⟩ = some (.int .i64 p) ∧ w'.cell? ⟨w.heap.size, 2, none⟩ = some (.int .i64 f) ∧ w'.cell? ⟨w.heap.size, 3, none⟩ = some (.int .u64 n) ∧ w'.cell? ⟨w.heap.size, 4, none⟩ = some (.int .u64 d) ∧ w'.cell? ⟨w.heap.size, 5, none⟩ = some (.int .i64 v) ∧ w'.cell? ⟨w.heap.size, 6, none⟩ = some (.float .f64 x) ∧ w'.cell? ⟨w.heap.size, 7, none⟩ = some (.int .u64 g) ∧ w'.cell? ⟨w.heap.size, 8, none⟩ = some (.int .i64 r)) [10] (by kernel_rfl) ?_ (fun hHeld => ?_)
  · exact add_cells (w := W0.drew) HB0.out HX0.out
  have HU0 : Hid (Mod (fun _ => False) w W0.drew) := HMW.out.drew
  have HB1 : Hid (W0.drew.heap[B]? = some (.cells #[.slice A l.length c] 54 (0, 0))) := HB0.out
  have HX1 : Hid (W0.drew.heap[w.heap.size]? = some (.cells #[.int .i64 k, .int .i64 p, .int .i64 f, .int .u64 n, .int .u64 d, .int .i64 v, .float .f64 x, .int .u64 g, .int .i64 r] 31 (0, 0))) := HX0.out
  have HR1 : Hid (RowOf W0.drew 31 9 (.slice A l.length c) l.length (evFlat l)) := HR0.out
  generalize W0.drew = u0 at *
  refine wpPart_take (i := 0) (oi := { dst := some 4, op := Op.move (Operand.tmp 0), type := 24, pos := "film.go:45", after := #[], guard := none }) (v := ?_) rfl (by kernel_rfl) (by kernel_rfl) (by kernel_rfl) (by kernel_rfl) (by kernel_rfl) (fun _ _ _ h => h) (Or.inl ⟨by rfl, ?_⟩) (by assumption) ?_
  rotate_left
  · intro w hSw; (try dsimp only at hSw); go_simp <;> with_reducible rfl
  try simp only [Act.put, List.setIfInBounds_toArray, List.set_cons_zero, List.set_cons_succ]
  refine wpPart_take (i := 1) (oi := { dst := some 5, op := Op.move (Operand.tmp 0), type := 24, pos := "film.go:45", after := #[], guard := none }) (v := ?_) rfl (by kernel_rfl) (by kernel_rfl) (by kernel_rfl) (by kernel_rfl) (by kernel_rfl) (fun _ _ _ h => h) (Or.inl ⟨by rfl, ?_⟩) (by assumption) ?_
  rotate_left
  · intro w hSw; (try dsimp only at hSw); go_simp <;> with_reducible rfl
  try simp only [Act.put, List.setIfInBounds_toArray, List.set_cons_zero, List.set_cons_succ]
  refine wpPart_take (i := 2) (oi := { dst := some 6, op := Op.nilCheck (Operand.tmp 5), type := 0, pos := "film.go:45", after := #[{ on := 1, ground := Ground.data }], guard := none }) (v := ?_) rfl (by kernel_rfl) (by kernel_rfl) (by kernel_rfl) (by kernel_rfl) (by kernel_rfl) (fun _ _ _ h => h) (Or.inl ⟨by rfl, ?_⟩) (by assumption) ?_
  rotate_left
  · intro w hSw; (try dsimp only at hSw); go_simp <;> with_reducible rfl
  try simp only [Act.put, List.setIfInBounds_toArray, List.set_cons_zero, List.set_cons_succ]
  refine wpPart_take (i := 3) (oi := { dst := some 7, op := Op.fieldAddr 54 (Operand.tmp 6) 0, type := 0, pos := "film.go:45", after := #[{ on := 2, ground := Ground.data }], guard := none }) (v := ?_) rfl (by kernel_rfl) (by kernel_rfl) (by kernel_rfl) (by kernel_rfl) (by kernel_rfl) (fun _ _ _ h => h) (Or.inl ⟨by rfl, ?_⟩) (by assumption) ?_
  rotate_left
  · intro w hSw; (try dsimp only at hSw); go_simp <;> with_reducible rfl
  try simp only [Act.put, List.setIfInBounds_toArray, List.set_cons_zero, List.set_cons_succ]
  refine wpPart_take (i := 4) (oi := { dst := some 8, op := Op.load 22 (Operand.tmp 7), type := 22, pos := "film.go:45", after := #[{ on := 3, ground := Ground.data }], guard := none }) (v := ?_) rfl (by kernel_rfl) (by kernel_rfl) (by kernel_rfl) (by kernel_rfl) (by kernel_rfl) (fun _ _ _ h => h) (Or.inl ⟨by rfl, ?_⟩) (by assumption) ?_
  rotate_left
  · intro w hSw; (try dsimp only at hSw); go_simp <;> with_reducible rfl
  try simp only [Act.put, List.setIfInBounds_toArray, List.set_cons_zero, List.set_cons_succ]
  refine wpPart_take (i := 5) (oi := { dst := some 9, op := Op.load 31 (Operand.tmp 3), type := 31, pos := "film.go:45", after := #[], guard := none }) (v := ?_) rfl (by kernel_rfl) (by kernel_rfl) (by kernel_rfl) (by kernel_rfl) (by kernel_rfl) (fun _ _ _ h => h) (Or.inl ⟨by rfl, ?_⟩) (by assumption) ?_
  rotate_left
  · intro w hSw; (try dsimp only at hSw); go_simp <;> with_reducible rfl
  try simp only [Act.put, List.setIfInBounds_toArray, List.set_cons_zero, List.set_cons_succ]
  refine wpPart_ready (rs := [6]) (by kernel_rfl) (by simp) ?_
  refine AllPart.cons (o := { dst := some 10, op := Op.buildSlice 22 1 #[(0, Operand.tmp 9)], type := 22, pos := "film.go:45", after := #[{ on := 5, ground := Ground.data }], guard := none }) rfl (by kernel_rfl) (fun K hK => ?_) AllPart.nil
  go_simp
  refine hK.out _ _ ?_ (fun hHeld => ?_)
  · first | exact hS1 | exact add_cells (blk_alloc HB1.out _) (blk_alloc HX1.out _)
  clear hK K
  try simp only [Act.put, List.setIfInBounds_toArray, List.set_cons_zero, List.set_cons_succ]
  refine wpPart_ready (rs := [7]) (by kernel_rfl) (by simp) ?_
  refine AllPart.cons (o := { dst := some 11, op := Op.call { callee := Callee.builtin Builtin.append, args := #[Operand.tmp 8, Operand.tmp 10], argTypes := #[22, 22] }, type := 22, pos := "film.go:45", after := #[{ on := 4, ground := Ground.data }, { on := 6, ground := Ground.data }], guard := none }) rfl (by kernel_rfl) (fun K hK => ?_) AllPart.nil
  refine step_append_row (by rfl) _ _ 22 (by rfl) i0 (.agg #[.int .i64 0, .int .i64 0, .int .i64 0, .int .u64 0, .int .u64 0, .int .i64 0, .float .f64 0, .int .u64 0, .int .i64 0]) 72 Tryd.underlying22 hii hz0 hz1 hz2 (by rfl) (by omega) (by rfl) (HR1.out.alloc _) (ev_one _) _ 1 [.int .i64 k, .int .i64 p, .int .i64 f, .int .u64 n, .int .u64 d, .int .i64 v, .float .f64 x, .int .u64 g, .int .i64 r] (by rfl) (src_nine _ _ (by simp [Value.oneCell'])) (by have := HL.out; unfold maxLen; omega) (by have := HL.out; omega) ?_
  intro av2 u2 hrow hgrow hat
  have hS1 := add_cells (blk_grown (blk_alloc HB1.out _) hgrow HNB.out) (blk_grown (blk_alloc HX1.out _) hgrow HNX.out)
  obtain ⟨A5, k5, rfl⟩ := hrow.form
  refine hK.out _ _ ?_ (fun hHeld => ?_)
  · first | exact hS1 | exact add_cells (blk_alloc HB1.out _) (blk_alloc HX1.out _)
  clear hK K
  try simp only [Act.put, List.setIfInBounds_toArray, List.set_cons_zero, List.set_cons_succ]
  clear hS1
  refine wpPart_ready (rs := [8]) (by kernel_rfl) (by simp) ?_
  refine AllPart.cons (o := { dst := some 12, op := Op.nilCheck (Operand.tmp 4), type := 0, pos := "film.go:45", after := #[{ on := 0, ground := Ground.data }, { on := 0, ground := Ground.phase }, { on := 1, ground := Ground.phase }, { on := 2, ground := Ground.phase }, { on := 3, ground := Ground.phase }, { on := 4, ground := Ground.phase }, { on := 5, ground := Ground.phase }, { on := 6, ground := Ground.phase }, { on := 7, ground := Ground.phase }], guard := none }) rfl (by kernel_rfl) (fun K hK => ?_) AllPart.nil
  go_simp
  refine hK.out _ _ ?_ (fun hHeld => ?_)
  · assumption
  clear hK K
  try simp only [Act.put, List.setIfInBounds_toArray, List.set_cons_zero, List.set_cons_succ]
  refine wpPart_take (i := 9) (oi := { dst := some 13, op := Op.fieldAddr 54 (Operand.tmp 12) 0, type := 0, pos := "film.go:45", after := #[{ on := 8, ground := Ground.data }, { on := 0, ground := Ground.phase }, { on := 1, ground := Ground.phase }, { on := 2, ground := Ground.phase }, { on := 3, ground := Ground.phase }, { on := 4, ground := Ground.phase }, { on := 5, ground := Ground.phase }, { on := 6, ground := Ground.phase }, { on := 7, ground := Ground.phase }], guard := none }) (v := ?_) rfl (by kernel_rfl) (by kernel_rfl) (by kernel_rfl) (by kernel_rfl) (by kernel_rfl) (fun _ _ _ h => h) (Or.inl ⟨by rfl, ?_⟩) (by assumption) ?_
  rotate_left
  · intro w hSw; (try dsimp only at hSw); go_simp <;> with_reducible rfl
  try simp only [Act.put, List.setIfInBounds_toArray, List.set_cons_zero, List.set_cons_succ]
  refine wpPart_ready (rs := [10]) (by kernel_rfl) (by simp) ?_
  refine AllPart.last (o := { dst := none, op := Op.store 22 (Operand.tmp 13) (Operand.tmp 11), type := 0, pos := "film.go:45", after := #[{ on := 9, ground := Ground.data }, { on := 7, ground := Ground.data }, { on := 7, ground := Ground.chain }, { on := 0, ground := Ground.phase }, { on := 1, ground := Ground.phase }, { on := 2, ground := Ground.phase }, { on := 3, ground := Ground.phase }, { on := 4, ground := Ground.phase }, { on := 5, ground := Ground.phase }, { on := 6, ground := Ground.phase }, { on := 7, ground := Ground.phase }], guard := none }) rfl (by kernel_rfl) (fun K hK => ?_) AllPart.nil
  have hc := hHeld.1
  have hf := hHeld.2.1
  go_simp
  refine hK.out _ _ ?_
  clear hK K
  try simp only [Act.put, List.setIfInBounds_toArray, List.set_cons_zero, List.set_cons_succ]
  clear hc hf
  refine wpPart_done (by kernel_rfl) ?_ _
  have hb2 := blk_grown (blk_alloc HB1.out _) hgrow HNB.out
  have hb3 := (blk_set hb2 0 (.slice A5 (l.length + 1) k5)).trans rfl
  have hM0 := HU0.out.alloc (.cells #[.int .i64 k, .int .i64 p, .int .i64 f, .int .u64 n, .int .u64 d, .int .i64 v, .float .f64 x, .int .u64 g, .int .i64 r] 31)
  have hmg : Mod (fun q => q = B ∨ (Value.slice A l.length c).ownBlock = some q) w u2 := by
    refine ⟨hgrow.os.trans hM0.os, hgrow.tape.trans hM0.tape, hgrow.output.trans hM0.output, Nat.le_trans hM0.size hgrow.size, fun i hi hs => ?_⟩
    rw [hgrow.block i (Nat.lt_of_lt_of_le hi hM0.size) (fun e => hs (.inr e.symm))]
    exact hM0.block i hi (fun x => x)
  have hown2 : ∀ q, (Value.slice A5 (l.length + 1) k5).ownBlock = some q → base ≤ q ∧ q ≠ B := fun q hq => by
    rcases hat with e | e
    · rw [e] at hq
      exact HOW.out q hq
    · rw [e] at hq
      cases hq
      have h1 := HU0.out.size
      have h2 := HBL.out
      have h3 := HBB.out
      have e2 : (u0.alloc (.cells #[.int .i64 k, .int .i64 p, .int .i64 f, .int .u64 n, .int .u64 d, .int .i64 v, .float .f64 x, .int .u64 g, .int .i64 r] 31)).heap.size = u0.heap.size + 1 := by simp
      rw [e2]
      exact ⟨by omega, by omega⟩
  have hrow3 : EvRow (u2.setCell ⟨B, 0, none⟩ (.slice A5 (l.length + 1) k5)) (.slice A5 (l.length + 1) k5) (l ++ [⟨k, p, f, n, d, v, x, g, r⟩]) := by
    unfold EvRow
    rw [HES.out, List.length_append]
    exact RowOf.mod (S := fun b => b = B) hrow ((Mod.refl (fun b => b = B) u2).set (p := ⟨B, 0, none⟩) (fun _ => rfl) _) (fun b hb e => (hown2 b hb).2 e)
  have HE : Hid (AddedS w base B (l ++ [⟨k, p, f, n, d, v, x, g, r⟩]) (.slice A l.length c) (.returned (.tuple #[])) (u2.setCell ⟨B, 0, none⟩ (.slice A5 (l.length + 1) k5))) :=
    ⟨rfl, ⟨_, hb3, hrow3, hown2, HBB.out⟩, hmg.set (fun _ => .inl rfl) _⟩
  clear hb2 hb3 hM0 hmg hown2 hrow3 hrow hgrow hat
  go_wp2
  go_end0
  exact HE.out

theorem Tryd.infoU64 : (Tryd.prog.info? 26).map (fun i => (i.zero, i.size, i.bytes)) = some (some (.int .u64 0), 1, 8) := by kernel_rfl
theorem eq_pair (a b : Nat) (W : World) : (binOp .neq 46 (.agg #[.int .u64 a, .int .u64 b]) (.agg #[.int .u64 a, .int .u64 b])).run Tryd.prog W = .ok (.bool false) W := by
  obtain ⟨i, hi, -⟩ := info_parts Tryd.infoU64
  have h := run_equalIn_array W 9999 (e := 26) (n := 2) #[.int .u64 a, .int .u64 b] #[.int .u64 a, .int .u64 b] Tryd.underlying46 hi
  go_simp
  have hc : Tryd.prog.cellsOf 26 = 1 := cellsU64
  simp only [Op.eqItems, hc]
  go_simp
/-- The film, and the rows that the law keeps beside it. -/
structure SS (B : Nat) (w1 : World) (lf la lt : List Ev) (lg : List (Nat × Nat)) (fv all att got : Value) (wr : World) : Prop where
  film : FilmAt wr B B lf fv
  mod : Mod (fun q => B ≤ q) w1 wr
  size : w1.heap.size ≤ B
  ra : RevRow wr all la
  oa : ∀ q, all.ownBlock = some q → B ≤ q
  rt : RevRow wr att lt
  ot : ∀ q, att.ownBlock = some q → B ≤ q
  rg : DRow wr got lg
  og : ∀ q, got.ownBlock = some q → B ≤ q
  ne : ∀ q, all.ownBlock = some q → att.ownBlock ≠ some q
theorem row_type {w : World} {e e' : TypeId} {s s' : Nat} {v v' : Value} {n n' : Nat} {xs xs' : List Value} (h : RowOf w e s v n xs) (h' : RowOf w e' s' v' n' xs') (hne : e ≠ e') {q : Nat} (hq : v.ownBlock = some q) : v'.ownBlock ≠ some q := fun hq' => by
  obtain ⟨c, hc⟩ := RowOf.block h hq
  obtain ⟨c', hc'⟩ := RowOf.block h' hq'
  exact blk_ne hc hc' hne rfl
theorem row_top {w : World} {e t : TypeId} {s : Nat} {v : Value} {n B : Nat} {xs : List Value} {cs : Array Value} (h : RowOf w e s v n xs) (h' : w.heap[B]? = some (.cells cs t (0, 0))) (hne : e ≠ t) {q : Nat} (hq : v.ownBlock = some q) : q ≠ B := fun hq' => by
  obtain ⟨c, hc⟩ := RowOf.block h hq
  exact blk_ne hc h' hne hq'
section
variable {B : Nat} {w1 wr w' wx : World} {lf la lt : List Ev} {lg : List (Nat × Nat)} {fv all att got : Value}
theorem SS.quiet (h : SS B w1 lf la lt lg fv all att got wr) (hm : Mod (fun _ => False) wr w') : SS B w1 lf la lt lg fv all att got w' :=
  ⟨h.film.none hm, h.mod.trans' hm (fun _ _ x => x.elim), h.size, RowOf.mod h.ra hm (fun _ _ x => x), h.oa, RowOf.mod h.rt hm (fun _ _ x => x), h.ot, RowOf.mod h.rg hm (fun _ _ x => x), h.og, h.ne⟩
theorem SS.low (h : SS B w1 lf la lt lg fv all att got wr) : B < wr.heap.size := blk_lt h.film.top
theorem SS.add (h : SS B w1 lf la lt lg fv all att got wr) {l' : List Ev} {q : Ending} (hA : AddedS wr B B l' fv q w') : ∃ fv', SS B w1 l' la lt lg fv' all att got w' := by
  obtain ⟨-, ⟨fv', hf⟩, hm⟩ := hA
  refine ⟨fv', hf, h.mod.trans' hm (fun i _ hi => ?_), h.size, RowOf.mod h.ra hm (fun b hb x => ?_), h.oa, RowOf.mod h.rt hm (fun b hb x => ?_), h.ot, RowOf.mod h.rg hm (fun b hb x => ?_), h.og, h.ne⟩
  · rcases hi with rfl | hi
    · exact Nat.le_refl _
    · exact (h.film.own i hi).1
  · rcases x with x | x
    · exact row_top h.ra h.film.top (by decide) hb x
    · exact row_type h.ra h.film.row (by decide) hb x
  · rcases x with x | x
    · exact row_top h.rt h.film.top (by decide) hb x
    · exact row_type h.rt h.film.row (by decide) hb x
  · rcases x with x | x
    · exact row_top h.rg h.film.top (by decide) hb x
    · exact row_type h.rg h.film.row (by decide) hb x
theorem own_new {av v' : Value} {w : World} (ho : v'.ownBlock = av.ownBlock ∨ v'.ownBlock = some w.heap.size) (hb : B < w.heap.size) (h : ∀ q, av.ownBlock = some q → B ≤ q) : ∀ q, v'.ownBlock = some q → B ≤ q := fun q hq => by
  rcases ho with ho | ho
  · exact h q (ho ▸ hq)
  · rw [ho] at hq
    have := Option.some.inj hq
    omega
theorem mod_put {row : Option Nat} (h : Mod (fun q => B ≤ q) w1 wr) (hg : wr.grownBy w' row) (hr : ∀ q, row = some q → B ≤ q) : Mod (fun q => B ≤ q) w1 w' :=
  h.trans (Mod.of_grown hg (fun k hk _ => hr k hk))
theorem SS.putAll (h : SS B w1 lf la lt lg fv all att got wr) {e : Ev} {v' : Value} (hr : RowOf w' 44 9 v' (la.length + 1) (evFlat la ++ e.cells)) (hg : wr.grownBy w' all.ownBlock)
    (ho : v'.ownBlock = all.ownBlock ∨ v'.ownBlock = some wr.heap.size) : SS B w1 lf (la ++ [e]) lt lg fv v' att got w' := by
  have hb := h.low
  have hm : Mod (fun q => all.ownBlock = some q) wr w' := Mod.of_grown hg (fun k hk _ => hk)
  refine ⟨?_, mod_put h.mod hg h.oa, h.size, ?_, own_new ho hb h.oa, RowOf.mod h.rt hm (fun b hb x => h.ne b x hb), h.ot, RowOf.mod h.rg hm (fun b hb => row_type h.rg h.ra (by decide) hb), h.og, fun q hq => ?_⟩
  · exact ⟨hm.blk h.film.top (fun x => row_top h.ra h.film.top (by decide) x rfl), RowOf.mod h.film.row hm (fun b hb => row_type h.film.row h.ra (by decide) hb), h.film.own, h.film.bb⟩
  · unfold RevRow
    rw [ev_snoc, List.length_append]
    exact hr
  · rcases ho with ho | ho
    · exact h.ne q (ho ▸ hq)
    · rw [ho] at hq
      have hq := Option.some.inj hq
      intro hx
      have := RowOf.lt h.rt hx
      omega
theorem SS.putAt (h : SS B w1 lf la lt lg fv all att got wr) {e : Ev} {v' : Value} (hr : RowOf w' 44 9 v' (lt.length + 1) (evFlat lt ++ e.cells)) (hg : wr.grownBy w' att.ownBlock)
    (ho : v'.ownBlock = att.ownBlock ∨ v'.ownBlock = some wr.heap.size) : SS B w1 lf la (lt ++ [e]) lg fv all v' got w' := by
  have hb := h.low
  have hm : Mod (fun q => att.ownBlock = some q) wr w' := Mod.of_grown hg (fun k hk _ => hk)
  refine ⟨?_, mod_put h.mod hg h.ot, h.size, RowOf.mod h.ra hm (fun b hb x => h.ne b hb x), h.oa, ?_, own_new ho hb h.ot, RowOf.mod h.rg hm (fun b hb => row_type h.rg h.rt (by decide) hb), h.og, fun q hq hx => ?_⟩
  · exact ⟨hm.blk h.film.top (fun x => row_top h.rt h.film.top (by decide) x rfl), RowOf.mod h.film.row hm (fun b hb => row_type h.film.row h.rt (by decide) hb), h.film.own, h.film.bb⟩
  · unfold RevRow
    rw [ev_snoc, List.length_append]
    exact hr
  · rcases ho with ho | ho
    · exact h.ne q hq (ho ▸ hx)
    · rw [ho] at hx
      have hx := Option.some.inj hx
      have := RowOf.lt h.ra hq
      omega
theorem SS.putGot (h : SS B w1 lf la lt lg fv all att got wr) {x : Nat × Nat} {v' : Value} (hr : RowOf w' 46 2 v' (lg.length + 1) (pairFlat lg ++ pairC x)) (hg : wr.grownBy w' got.ownBlock)
    (ho : v'.ownBlock = got.ownBlock ∨ v'.ownBlock = some wr.heap.size) : SS B w1 lf la lt (lg ++ [x]) fv all att v' w' := by
  have hb := h.low
  have hm : Mod (fun q => got.ownBlock = some q) wr w' := Mod.of_grown hg (fun k hk _ => hk)
  refine ⟨?_, mod_put h.mod hg h.og, h.size, RowOf.mod h.ra hm (fun b hb => row_type h.ra h.rg (by decide) hb), h.oa, RowOf.mod h.rt hm (fun b hb => row_type h.rt h.rg (by decide) hb), h.ot, ?_, own_new ho hb h.og, h.ne⟩
  · exact ⟨hm.blk h.film.top (fun x => row_top h.rg h.film.top (by decide) x rfl), RowOf.mod h.film.row hm (fun b hb => row_type h.film.row h.rg (by decide) hb), h.film.own, h.film.bb⟩
  · unfold DRow
    rw [pair_snoc, List.length_append]
    exact hr
theorem blk_row {row : Option Nat} {X : Nat} {o : Obj} (h : wr.heap[X]? = some o) (hg : wr.grownBy w' row) (hne : ∀ k, row = some k → X ≠ k) : w'.heap[X]? = some o := blk_grown h hg hne
end
theorem Tryd.infoREv : (Tryd.prog.info? 44).map (fun i => (i.zero, i.size, i.bytes)) = some (some ((.agg #[.int .i64 0, .int .i64 0, .int .i64 0, .int .u64 0, .int .u64 0, .int .i64 0, .float .f64 0, .int .u64 0, .int .i64 0])), 9, 72) := by kernel_rfl
end Go.Proofs.YtlklbdnlpljaiaaDoor
