/-
  The reference's Put.
-/
import Derived.Test.YtmpeijlfflfkbaaPostL
import Derived.Test.YtmpeijlfflfkbaaPart
namespace Go.Proofs.Ytmpeijlfflfkbaa
open Go.RowKit Go.Shoal Go.Conc

theorem Try.infoInt : (Try.prog.info? 3).map (fun i => (i.zero, i.size, i.bytes)) = some (some (.int .i64 0), 1, 8) := by kernel_rfl
/-- What a call that only looks leaves. -/
def Looked (w : World) (v : Value) (e : Ending) (w' : World) : Prop := e = .returned v ∧ ∃ n, w' = w.drewN n
set_option maxHeartbeats 1000000 in
theorem rput_out (W g n : Nat) (room : Int) (b x : Int) (w : World) (hW : w.heap[W]? = some (.cells #[.int .i64 room, .slice (some ⟨g, 0, none⟩) n n] 49 (0, 0))) (hb : ¬ (0 ≤ b ∧ b < n)) :
    Calls Try.prog 19 #[.pointer (some ⟨W, 0, none⟩), .int .i64 b, .int .i64 x] w (Looked w (.bool false)) := by
  have c1 := (blk_cell hW 1).trans rfl
  by_cases h1 : b < 0
  · have t1 : decide (b < 0) = true := decide_eq_true h1
    clear hb hW
    go_enter Try.func19, Try.ntmps19
    go_wp2
    go_quiet (fail)
    go_wp2
    go_ret
    exact ⟨rfl, _, rfl⟩
  · have t1 : decide (b < 0) = false := decide_eq_false h1
    have t2 : decide ((n : Int) ≤ b) = true := decide_eq_true (by omega)
    clear hb hW
    go_enter Try.func19, Try.ntmps19
    go_wp2
    go_quiet (fail)
    go_wp2
    go_ret
    exact ⟨rfl, _, rfl⟩
set_option maxHeartbeats 1000000 in
theorem rput_full (W g n k m c room : Nat) (A : Option Addr) (x : Int) (cells : Array Value) (w : World) (hW : w.heap[W]? = some (.cells #[.int .i64 room, .slice (some ⟨g, 0, none⟩) n n] 49 (0, 0)))
    (hg : w.heap[g]? = some (.cells cells 22 (0, 0))) (hk : k < n) (hc : cells[k]? = some (.slice A m c)) (hm : room ≤ m) :
    Calls Try.prog 19 #[.pointer (some ⟨W, 0, none⟩), .int .i64 k, .int .i64 x] w (Looked w (.bool false)) := by
  have c0 := (blk_cell hW 0).trans rfl
  have c1 := (blk_cell hW 1).trans rfl
  have ck : w.cell? ⟨g, k, none⟩ = some (.slice A m c) := (blk_cell hg k).trans hc
  have t1 : decide ((k : Int) < 0) = false := decide_eq_false (by omega)
  have t2 : decide (n ≤ k) = false := decide_eq_false (by omega)
  have t3 : decide (room ≤ m) = true := decide_eq_true (by omega)
  have h1 : (0 : Int) ≤ (k : Int) := by omega
  have h2 : (k : Int) < (n : Int) := by omega
  clear hW hg hc
  go_enter Try.func19, Try.ntmps19
  go_wp2
  go_quiet (fail)
  go_wp2
  go_ret
  exact ⟨rfl, _, rfl⟩
/-- What Put leaves. -/
def PutOk (w : World) (g k m : Nat) (xs : List Value) (e : Ending) (w' : World) : Prop :=
  e = .returned (.bool true) ∧ ∃ w1 v', w' = w1.setCell ⟨g, k, none⟩ v' ∧ Below w.heap.size w w1 ∧ w1.ownsRow w.heap.size 3 1 v' (m + 1) xs
/-- In the midst of Put. -/
def PutMid (w : World) (W g k n : Nat) (room : Int) (v : Value) (w' : World) : Prop :=
  w'.cell? ⟨W, 1, none⟩ = some (.slice (some ⟨g, 0, none⟩) n n) ∧ w'.cell? ⟨g, k, none⟩ = some v ∧ w'.frozen? ⟨g, k, none⟩ = false ∧ w'.cell? ⟨W, 0, none⟩ = some (.int .i64 room) ∧ Below w.heap.size w w' ∧ (W < w.heap.size ∧ g < w.heap.size)
theorem PutMid.next {w a b : World} {W g k n : Nat} {room : Int} {v : Value} (h : PutMid w W g k n room v a) (hb : Below w.heap.size w b) : PutMid w W g k n room v b := by
  obtain ⟨h1, h2, h3, h4, h5, h6, h7⟩ := h
  exact ⟨((hb.cell (p := ⟨W, 1, none⟩) h6).trans (h5.cell (p := ⟨W, 1, none⟩) h6).symm).trans h1, ((hb.cell (p := ⟨g, k, none⟩) h7).trans (h5.cell (p := ⟨g, k, none⟩) h7).symm).trans h2, ((hb.frozen (p := ⟨g, k, none⟩) h7).trans (h5.frozen (p := ⟨g, k, none⟩) h7).symm).trans h3, ((hb.cell (p := ⟨W, 0, none⟩) h6).trans (h5.cell (p := ⟨W, 0, none⟩) h6).symm).trans h4, hb, h6, h7⟩
theorem PutMid.alloc {w a : World} {W g k n : Nat} {room : Int} {v : Value} (h : PutMid w W g k n room v a) (o : Obj) : PutMid w W g k n room v (a.alloc o) := h.next (h.2.2.2.2.1.alloc h.2.2.2.2.1.size o)
theorem PutMid.grown {w a b : World} {W g k n : Nat} {room : Int} {v u : Value} {e m : Nat} {xs : List Value} (h : PutMid w W g k n room v a) (ho : a.ownsRow w.heap.size e 1 u m xs) (hg : a.grownBy b u.ownBlock) : PutMid w W g k n room v b :=
  h.next (below_grown h.2.2.2.2.1 hg (own_base ho) h.2.2.2.2.1.size)
set_option maxRecDepth 100000 in
set_option maxHeartbeats 4000000 in
theorem rput_row (W g n k m room : Nat) (v : Value) (x : Int) (xs : List Value) (cells : Array Value) (w : World) (hW : w.heap[W]? = some (.cells #[.int .i64 room, .slice (some ⟨g, 0, none⟩) n n] 49 (0, 0)))
    (hg : w.heap[g]? = some (.cells cells 22 (0, 0))) (hk : k < n) (hc : cells[k]? = some v) (hsl : ∃ A c, v = .slice A m c) (hs : SrcOk w v m 1 xs) (hm : m < room) (hr : room ≤ 64) :
    Calls Try.prog 19 #[.pointer (some ⟨W, 0, none⟩), .int .i64 k, .int .i64 x] w (PutOk w g k m (xs ++ [.int .i64 x])) := by
  obtain ⟨i0, hii, hz0, hz1, hz2⟩ := info_parts Try.infoInt
  have c0 := (blk_cell hW 0).trans rfl
  have c1 := (blk_cell hW 1).trans rfl
  have ck : w.cell? ⟨g, k, none⟩ = some v := (blk_cell hg k).trans hc
  have fk := blk_frozen hg k
  have HP : Hid (PutMid w W g k n room v w.drew) := ⟨c1, ck, fk, c0, (Below.refl _ _).drew, blk_lt hW, blk_lt hg⟩
  have t1 : decide ((k : Int) < 0) = false := decide_eq_false (by omega)
  have t2 : decide (n ≤ k) = false := decide_eq_false (by omega)
  have t3 : decide (room ≤ m) = false := decide_eq_false (by omega)
  have h1 : (0 : Int) ≤ (k : Int) := by omega
  have h2 : (k : Int) < (n : Int) := by omega
  have HS := Lib.hid hs
  clear hW hg hc hs
  obtain ⟨A, c, rfl⟩ := hsl
  go_enter Try.func19, Try.ntmps19
  go_wp2
  go_quiet (fail)
  go_wp2
  have hP : PutMid w W g k n room (.slice A m c) (w.drewN nq).drew := PutMid.next HP.out ⟨rfl, rfl, rfl, Nat.le_refl _, fun _ _ => rfl⟩
  clear HP c0 c1 ck fk
  refine wp_region_part (S := fun w' => w'.cell? ⟨W, 1, none⟩ = some (.slice (some ⟨g, 0, none⟩) n n) ∧ w'.cell? ⟨g, k, none⟩ = some (.slice A m c) ∧ w'.frozen? ⟨g, k, none⟩ = false ∧ w'.cell? ⟨W, 0, none⟩ = some (.int .i64 room) ∧ Below w.heap.size w w' ∧ W < w.heap.size ∧ g < w.heap.size) [18] (by kernel_rfl) ?_ (fun hHeld => ?_)
  · exact hP
  generalize (w.drewN nq).drew = u0 at *
  refine wpPart_take (i := 0) (oi := { dst := some 33, op := Op.move (Operand.tmp 0), type := 46, pos := "ref.go:72", after := #[], guard := none }) (v := ?_) rfl (by kernel_rfl) (by kernel_rfl) (by kernel_rfl) (by kernel_rfl) (by kernel_rfl) (fun _ _ _ h => h) (Or.inl ⟨by rfl, ?_⟩) (by assumption) ?_
  rotate_left
  · intro w hSw; (try dsimp only at hSw); go_simp <;> with_reducible rfl
  try simp only [Act.put, List.setIfInBounds_toArray, List.set_cons_zero, List.set_cons_succ]
  refine wpPart_take (i := 1) (oi := { dst := some 34, op := Op.nilCheck (Operand.tmp 33), type := 0, pos := "ref.go:72", after := #[{ on := 0, ground := Ground.data }], guard := none }) (v := ?_) rfl (by kernel_rfl) (by kernel_rfl) (by kernel_rfl) (by kernel_rfl) (by kernel_rfl) (fun _ _ _ h => h) (Or.inl ⟨by rfl, ?_⟩) (by assumption) ?_
  rotate_left
  · intro w hSw; (try dsimp only at hSw); go_simp <;> with_reducible rfl
  try simp only [Act.put, List.setIfInBounds_toArray, List.set_cons_zero, List.set_cons_succ]
  refine wpPart_take (i := 2) (oi := { dst := some 35, op := Op.fieldAddr 49 (Operand.tmp 34) 1, type := 0, pos := "ref.go:72", after := #[{ on := 1, ground := Ground.data }], guard := none }) (v := ?_) rfl (by kernel_rfl) (by kernel_rfl) (by kernel_rfl) (by kernel_rfl) (by kernel_rfl) (fun _ _ _ h => h) (Or.inl ⟨by rfl, ?_⟩) (by assumption) ?_
  rotate_left
  · intro w hSw; (try dsimp only at hSw); go_simp <;> with_reducible rfl
  try simp only [Act.put, List.setIfInBounds_toArray, List.set_cons_zero, List.set_cons_succ]
  refine wpPart_take (i := 3) (oi := { dst := some 36, op := Op.load 47 (Operand.tmp 35), type := 47, pos := "ref.go:72", after := #[{ on := 2, ground := Ground.data }], guard := none }) (v := ?_) rfl (by kernel_rfl) (by kernel_rfl) (by kernel_rfl) (by kernel_rfl) (by kernel_rfl) (fun _ _ _ h => h) (Or.inl ⟨by rfl, ?_⟩) (by assumption) ?_
  rotate_left
  · intro w hSw; (try dsimp only at hSw); go_simp <;> with_reducible rfl
  try simp only [Act.put, List.setIfInBounds_toArray, List.set_cons_zero, List.set_cons_succ]
  refine wpPart_take (i := 4) (oi := { dst := some 37, op := Op.move (Operand.tmp 1), type := 3, pos := "ref.go:72", after := #[], guard := none }) (v := ?_) rfl (by kernel_rfl) (by kernel_rfl) (by kernel_rfl) (by kernel_rfl) (by kernel_rfl) (fun _ _ _ h => h) (Or.inl ⟨by rfl, ?_⟩) (by assumption) ?_
  rotate_left
  · intro w hSw; (try dsimp only at hSw); go_simp <;> with_reducible rfl
  try simp only [Act.put, List.setIfInBounds_toArray, List.set_cons_zero, List.set_cons_succ]
  refine wpPart_take (i := 6) (oi := { dst := some 39, op := Op.move (Operand.tmp 0), type := 46, pos := "ref.go:72", after := #[], guard := none }) (v := ?_) rfl (by kernel_rfl) (by kernel_rfl) (by kernel_rfl) (by kernel_rfl) (by kernel_rfl) (fun _ _ _ h => h) (Or.inl ⟨by rfl, ?_⟩) (by assumption) ?_
  rotate_left
  · intro w hSw; (try dsimp only at hSw); go_simp <;> with_reducible rfl
  try simp only [Act.put, List.setIfInBounds_toArray, List.set_cons_zero, List.set_cons_succ]
  refine wpPart_take (i := 7) (oi := { dst := some 40, op := Op.nilCheck (Operand.tmp 39), type := 0, pos := "ref.go:72", after := #[{ on := 6, ground := Ground.data }], guard := none }) (v := ?_) rfl (by kernel_rfl) (by kernel_rfl) (by kernel_rfl) (by kernel_rfl) (by kernel_rfl) (fun _ _ _ h => h) (Or.inl ⟨by rfl, ?_⟩) (by assumption) ?_
  rotate_left
  · intro w hSw; (try dsimp only at hSw); go_simp <;> with_reducible rfl
  try simp only [Act.put, List.setIfInBounds_toArray, List.set_cons_zero, List.set_cons_succ]
  refine wpPart_take (i := 8) (oi := { dst := some 41, op := Op.fieldAddr 49 (Operand.tmp 40) 1, type := 0, pos := "ref.go:72", after := #[{ on := 7, ground := Ground.data }], guard := none }) (v := ?_) rfl (by kernel_rfl) (by kernel_rfl) (by kernel_rfl) (by kernel_rfl) (by kernel_rfl) (fun _ _ _ h => h) (Or.inl ⟨by rfl, ?_⟩) (by assumption) ?_
  rotate_left
  · intro w hSw; (try dsimp only at hSw); go_simp <;> with_reducible rfl
  try simp only [Act.put, List.setIfInBounds_toArray, List.set_cons_zero, List.set_cons_succ]
  refine wpPart_take (i := 9) (oi := { dst := some 42, op := Op.load 47 (Operand.tmp 41), type := 47, pos := "ref.go:72", after := #[{ on := 8, ground := Ground.data }], guard := none }) (v := ?_) rfl (by kernel_rfl) (by kernel_rfl) (by kernel_rfl) (by kernel_rfl) (by kernel_rfl) (fun _ _ _ h => h) (Or.inl ⟨by rfl, ?_⟩) (by assumption) ?_
  rotate_left
  · intro w hSw; (try dsimp only at hSw); go_simp <;> with_reducible rfl
  try simp only [Act.put, List.setIfInBounds_toArray, List.set_cons_zero, List.set_cons_succ]
  refine wpPart_take (i := 10) (oi := { dst := some 43, op := Op.move (Operand.tmp 1), type := 3, pos := "ref.go:72", after := #[], guard := none }) (v := ?_) rfl (by kernel_rfl) (by kernel_rfl) (by kernel_rfl) (by kernel_rfl) (by kernel_rfl) (fun _ _ _ h => h) (Or.inl ⟨by rfl, ?_⟩) (by assumption) ?_
  rotate_left
  · intro w hSw; (try dsimp only at hSw); go_simp <;> with_reducible rfl
  try simp only [Act.put, List.setIfInBounds_toArray, List.set_cons_zero, List.set_cons_succ]
  refine wpPart_take (i := 11) (oi := { dst := some 44, op := Op.indexAddr 47 (Operand.tmp 42) (Operand.tmp 43), type := 0, pos := "ref.go:72", after := #[{ on := 9, ground := Ground.data }, { on := 10, ground := Ground.data }], guard := none }) (v := ?_) rfl (by kernel_rfl) (by kernel_rfl) (by kernel_rfl) (by kernel_rfl) (by kernel_rfl) (fun _ _ _ h => h) (Or.inl ⟨by rfl, ?_⟩) (by assumption) ?_
  rotate_left
  · intro w hSw; (try dsimp only at hSw); go_simp <;> with_reducible rfl
  try simp only [Act.put, List.setIfInBounds_toArray, List.set_cons_zero, List.set_cons_succ]
  refine wpPart_take (i := 12) (oi := { dst := some 45, op := Op.load 22 (Operand.tmp 44), type := 22, pos := "ref.go:72", after := #[{ on := 11, ground := Ground.data }], guard := none }) (v := ?_) rfl (by kernel_rfl) (by kernel_rfl) (by kernel_rfl) (by kernel_rfl) (by kernel_rfl) (fun _ _ _ h => h) (Or.inl ⟨by rfl, ?_⟩) (by assumption) ?_
  rotate_left
  · intro w hSw; (try dsimp only at hSw); go_simp <;> with_reducible rfl
  try simp only [Act.put, List.setIfInBounds_toArray, List.set_cons_zero, List.set_cons_succ]
  refine wpPart_take (i := 14) (oi := { dst := some 47, op := Op.move (Operand.tmp 2), type := 3, pos := "ref.go:72", after := #[], guard := none }) (v := ?_) rfl (by kernel_rfl) (by kernel_rfl) (by kernel_rfl) (by kernel_rfl) (by kernel_rfl) (fun _ _ _ h => h) (Or.inl ⟨by rfl, ?_⟩) (by assumption) ?_
  rotate_left
  · intro w hSw; (try dsimp only at hSw); go_simp <;> with_reducible rfl
  try simp only [Act.put, List.setIfInBounds_toArray, List.set_cons_zero, List.set_cons_succ]
  refine wpPart_ready (rs := [5, 15]) (by kernel_rfl) (by simp) ?_
  refine AllPart.cons (o := { dst := some 38, op := Op.buildSlice 22 0 #[], type := 22, pos := "ref.go:72", after := #[], guard := none }) rfl (by kernel_rfl) (fun K hK => ?_) ?_
  · skip
    have hsz : w.heap.size ≤ u0.heap.size := hHeld.2.2.2.2.1.size
    go_simp
    refine hK.out _ _ ?_ (fun hHeld => ?_)
    · first | exact hS1 | exact PutMid.alloc hHeld _
    clear hK K
    try simp only [Act.put, List.setIfInBounds_toArray, List.set_cons_zero, List.set_cons_succ]
    have HO : Hid ((u0.alloc (Obj.cells #[] 3)).ownsRow w.heap.size 3 1 (.slice (some ⟨u0.heap.size, 0, none⟩) 0 0) 0 []) := World.ownsRow_made u0 #[] 0 hsz (by unfold maxLen; omega) rfl
    clear hsz
    generalize u0.heap.size = b5 at *
    generalize u0.alloc (Obj.cells #[] 3) = u1 at *
    refine wpPart_ready (rs := [13, 15]) (by kernel_rfl) (by simp) ?_
    refine AllPart.cons (o := { dst := some 46, op := Op.call { callee := Callee.builtin Builtin.append, args := #[Operand.tmp 38, Operand.tmp 45], argTypes := #[22, 22] }, type := 22, pos := "ref.go:72", after := #[{ on := 5, ground := Ground.data }, { on := 12, ground := Ground.data }], guard := none }) rfl (by kernel_rfl) (fun K hK => ?_) ?_
    · skip
      refine step_append_src (by rfl) _ _ 22 (by rfl) w.heap.size 3 i0 (.int .i64 0) 1 8 Try.underlying22 hii hz0 hz1 hz2 rfl (by omega) (.slice (some ⟨b5, 0, none⟩) 0 0) 0 [] (by rfl) HO.out (.slice A m c) m xs (by rfl) (HS.out.below hHeld.2.2.2.2.1) (by unfold maxLen; omega) (by omega) hHeld.2.2.2.2.1.size ?_
      intro v1 u2 hown hgrow _
      have hS1 := PutMid.grown hHeld HO.out hgrow
      simp only [Nat.zero_add, List.nil_append] at hown
      refine hK.out _ _ ?_ (fun hHeld => ?_)
      · first | exact hS1 | exact PutMid.alloc hHeld _
      clear hK K
      try simp only [Act.put, List.setIfInBounds_toArray, List.set_cons_zero, List.set_cons_succ]
      have HO1 := Lib.hid hown
      clear HO
      have HO := Lib.hid HO1.out
      clear HO1
      clear hown hgrow hS1
      refine wpPart_ready (rs := [15]) (by kernel_rfl) (by simp) ?_
      refine AllPart.cons (o := { dst := some 48, op := Op.buildSlice 22 1 #[(0, Operand.tmp 47)], type := 22, pos := "ref.go:72", after := #[{ on := 14, ground := Ground.data }], guard := none }) rfl (by kernel_rfl) (fun K hK => ?_) AllPart.nil
      have hsz : w.heap.size ≤ u2.heap.size := hHeld.2.2.2.2.1.size
      go_simp
      refine hK.out _ _ ?_ (fun hHeld => ?_)
      · first | exact hS1 | exact PutMid.alloc hHeld _
      clear hK K
      try simp only [Act.put, List.setIfInBounds_toArray, List.set_cons_zero, List.set_cons_succ]
      have HB : Hid ((u2.alloc (Obj.cells #[.int .i64 x] 3)).heap[u2.heap.size]? = some (Obj.cells #[.int .i64 x] 3 (0, 0))) := blk_new _ _
      have HO2 := Lib.hid (HO.out.alloc (Obj.cells #[.int .i64 x] 3))
      clear HO
      have HO := Lib.hid HO2.out
      clear HO2
      clear hsz
      generalize u2.heap.size = b15 at *
      generalize u2.alloc (Obj.cells #[.int .i64 x] 3) = u3 at *
      refine wpPart_ready (rs := [16]) (by kernel_rfl) (by simp) ?_
      refine AllPart.cons (o := { dst := some 49, op := Op.call { callee := Callee.builtin Builtin.append, args := #[Operand.tmp 46, Operand.tmp 48], argTypes := #[22, 22] }, type := 22, pos := "ref.go:72", after := #[{ on := 13, ground := Ground.data }, { on := 15, ground := Ground.data }, { on := 13, ground := Ground.chain }], guard := none }) rfl (by kernel_rfl) (fun K hK => ?_) AllPart.nil
      refine step_append_src (by rfl) _ _ 22 (by rfl) w.heap.size 3 i0 (.int .i64 0) 1 8 Try.underlying22 hii hz0 hz1 hz2 rfl (by omega) v1 m xs (by rfl) HO.out (.slice (some ⟨b15, 0, none⟩) 1 1) 1 [.int .i64 x] (by rfl) (SrcOk.block HB.out rfl (fun j u hu => by rw [Nat.zero_add]; simpa using hu) (by simp [Value.oneCell'])) (by unfold maxLen; omega) (by omega) hHeld.2.2.2.2.1.size ?_
      intro v2 u4 hown hgrow _
      have hS1 := PutMid.grown hHeld HO.out hgrow
      obtain ⟨g2, c2, rfl, _, _⟩ := hown.form (by omega)
      have HO2 := Lib.hid hown
      refine hK.out _ _ ?_ (fun hHeld => ?_)
      · first | exact hS1 | exact PutMid.alloc hHeld _
      clear hK K
      try simp only [Act.put, List.setIfInBounds_toArray, List.set_cons_zero, List.set_cons_succ]
      clear hown hgrow hS1
      refine wpPart_take (i := 17) (oi := { dst := some 50, op := Op.indexAddr 47 (Operand.tmp 36) (Operand.tmp 37), type := 0, pos := "ref.go:72", after := #[{ on := 3, ground := Ground.data }, { on := 4, ground := Ground.data }, { on := 0, ground := Ground.phase }, { on := 1, ground := Ground.phase }, { on := 2, ground := Ground.phase }, { on := 3, ground := Ground.phase }, { on := 4, ground := Ground.phase }, { on := 5, ground := Ground.phase }, { on := 6, ground := Ground.phase }, { on := 7, ground := Ground.phase }, { on := 8, ground := Ground.phase }, { on := 9, ground := Ground.phase }, { on := 10, ground := Ground.phase }, { on := 11, ground := Ground.phase }, { on := 12, ground := Ground.phase }, { on := 13, ground := Ground.phase }, { on := 14, ground := Ground.phase }, { on := 15, ground := Ground.phase }, { on := 16, ground := Ground.phase }], guard := none }) (v := ?_) rfl (by kernel_rfl) (by kernel_rfl) (by kernel_rfl) (by kernel_rfl) (by kernel_rfl) (fun _ _ _ h => h) (Or.inl ⟨by rfl, ?_⟩) (by assumption) ?_
      rotate_left
      · intro w hSw; (try dsimp only at hSw); go_simp <;> with_reducible rfl
      try simp only [Act.put, List.setIfInBounds_toArray, List.set_cons_zero, List.set_cons_succ]
      refine wpPart_ready (rs := [18]) (by kernel_rfl) (by simp) ?_
      refine AllPart.last (o := { dst := none, op := Op.store 22 (Operand.tmp 50) (Operand.tmp 49), type := 0, pos := "ref.go:72", after := #[{ on := 17, ground := Ground.data }, { on := 16, ground := Ground.data }, { on := 16, ground := Ground.chain }, { on := 0, ground := Ground.phase }, { on := 1, ground := Ground.phase }, { on := 2, ground := Ground.phase }, { on := 3, ground := Ground.phase }, { on := 4, ground := Ground.phase }, { on := 5, ground := Ground.phase }, { on := 6, ground := Ground.phase }, { on := 7, ground := Ground.phase }, { on := 8, ground := Ground.phase }, { on := 9, ground := Ground.phase }, { on := 10, ground := Ground.phase }, { on := 11, ground := Ground.phase }, { on := 12, ground := Ground.phase }, { on := 13, ground := Ground.phase }, { on := 14, ground := Ground.phase }, { on := 15, ground := Ground.phase }, { on := 16, ground := Ground.phase }], guard := none }) rfl (by kernel_rfl) (fun K hK => ?_) AllPart.nil
      have hc := hHeld.2.1
      have hf := hHeld.2.2.1
      have HW := Lib.hid hHeld.2.2.2.2.1
      go_simp
      refine hK.out _ _ ?_
      clear hK K
      try simp only [Act.put, List.setIfInBounds_toArray, List.set_cons_zero, List.set_cons_succ]
      refine wpPart_done (by kernel_rfl) ?_ _
      go_wp2
      go_ret
      exact ⟨rfl, _, _, rfl, HW.out, HO2.out⟩
    refine AllPart.cons (o := { dst := some 48, op := Op.buildSlice 22 1 #[(0, Operand.tmp 47)], type := 22, pos := "ref.go:72", after := #[{ on := 14, ground := Ground.data }], guard := none }) rfl (by kernel_rfl) (fun K hK => ?_) ?_
    · skip
      have hsz : w.heap.size ≤ u1.heap.size := hHeld.2.2.2.2.1.size
      go_simp
      refine hK.out _ _ ?_ (fun hHeld => ?_)
      · first | exact hS1 | exact PutMid.alloc hHeld _
      clear hK K
      try simp only [Act.put, List.setIfInBounds_toArray, List.set_cons_zero, List.set_cons_succ]
      have HB : Hid ((u1.alloc (Obj.cells #[.int .i64 x] 3)).heap[u1.heap.size]? = some (Obj.cells #[.int .i64 x] 3 (0, 0))) := blk_new _ _
      have HNE : Hid (u1.heap.size ≠ b5) := by have := (HO.out.lt b5 rfl).2; show _ ≠ _; omega
      have HO2 := Lib.hid (HO.out.alloc (Obj.cells #[.int .i64 x] 3))
      clear HO
      have HO := Lib.hid HO2.out
      clear HO2
      clear hsz
      generalize u1.heap.size = b15 at *
      generalize u1.alloc (Obj.cells #[.int .i64 x] 3) = u2 at *
      refine wpPart_ready (rs := [13]) (by kernel_rfl) (by simp) ?_
      refine AllPart.cons (o := { dst := some 46, op := Op.call { callee := Callee.builtin Builtin.append, args := #[Operand.tmp 38, Operand.tmp 45], argTypes := #[22, 22] }, type := 22, pos := "ref.go:72", after := #[{ on := 5, ground := Ground.data }, { on := 12, ground := Ground.data }], guard := none }) rfl (by kernel_rfl) (fun K hK => ?_) AllPart.nil
      refine step_append_src (by rfl) _ _ 22 (by rfl) w.heap.size 3 i0 (.int .i64 0) 1 8 Try.underlying22 hii hz0 hz1 hz2 rfl (by omega) (.slice (some ⟨b5, 0, none⟩) 0 0) 0 [] (by rfl) HO.out (.slice A m c) m xs (by rfl) (HS.out.below hHeld.2.2.2.2.1) (by unfold maxLen; omega) (by omega) hHeld.2.2.2.2.1.size ?_
      intro v1 u3 hown hgrow _
      have hS1 := PutMid.grown hHeld HO.out hgrow
      simp only [Nat.zero_add, List.nil_append] at hown
      refine hK.out _ _ ?_ (fun hHeld => ?_)
      · first | exact hS1 | exact PutMid.alloc hHeld _
      clear hK K
      try simp only [Act.put, List.setIfInBounds_toArray, List.set_cons_zero, List.set_cons_succ]
      have HB2 := Lib.hid (blk_grown HB.out hgrow (fun j hj => by cases hj; exact HNE.out))
      clear HB HNE
      have HB := Lib.hid HB2.out
      clear HB2
      have HO1 := Lib.hid hown
      clear HO
      have HO := Lib.hid HO1.out
      clear HO1
      clear hown hgrow hS1
      refine wpPart_ready (rs := [16]) (by kernel_rfl) (by simp) ?_
      refine AllPart.cons (o := { dst := some 49, op := Op.call { callee := Callee.builtin Builtin.append, args := #[Operand.tmp 46, Operand.tmp 48], argTypes := #[22, 22] }, type := 22, pos := "ref.go:72", after := #[{ on := 13, ground := Ground.data }, { on := 15, ground := Ground.data }, { on := 13, ground := Ground.chain }], guard := none }) rfl (by kernel_rfl) (fun K hK => ?_) AllPart.nil
      refine step_append_src (by rfl) _ _ 22 (by rfl) w.heap.size 3 i0 (.int .i64 0) 1 8 Try.underlying22 hii hz0 hz1 hz2 rfl (by omega) v1 m xs (by rfl) HO.out (.slice (some ⟨b15, 0, none⟩) 1 1) 1 [.int .i64 x] (by rfl) (SrcOk.block HB.out rfl (fun j u hu => by rw [Nat.zero_add]; simpa using hu) (by simp [Value.oneCell'])) (by unfold maxLen; omega) (by omega) hHeld.2.2.2.2.1.size ?_
      intro v2 u4 hown hgrow _
      have hS1 := PutMid.grown hHeld HO.out hgrow
      obtain ⟨g2, c2, rfl, _, _⟩ := hown.form (by omega)
      have HO2 := Lib.hid hown
      refine hK.out _ _ ?_ (fun hHeld => ?_)
      · first | exact hS1 | exact PutMid.alloc hHeld _
      clear hK K
      try simp only [Act.put, List.setIfInBounds_toArray, List.set_cons_zero, List.set_cons_succ]
      clear hown hgrow hS1
      refine wpPart_take (i := 17) (oi := { dst := some 50, op := Op.indexAddr 47 (Operand.tmp 36) (Operand.tmp 37), type := 0, pos := "ref.go:72", after := #[{ on := 3, ground := Ground.data }, { on := 4, ground := Ground.data }, { on := 0, ground := Ground.phase }, { on := 1, ground := Ground.phase }, { on := 2, ground := Ground.phase }, { on := 3, ground := Ground.phase }, { on := 4, ground := Ground.phase }, { on := 5, ground := Ground.phase }, { on := 6, ground := Ground.phase }, { on := 7, ground := Ground.phase }, { on := 8, ground := Ground.phase }, { on := 9, ground := Ground.phase }, { on := 10, ground := Ground.phase }, { on := 11, ground := Ground.phase }, { on := 12, ground := Ground.phase }, { on := 13, ground := Ground.phase }, { on := 14, ground := Ground.phase }, { on := 15, ground := Ground.phase }, { on := 16, ground := Ground.phase }], guard := none }) (v := ?_) rfl (by kernel_rfl) (by kernel_rfl) (by kernel_rfl) (by kernel_rfl) (by kernel_rfl) (fun _ _ _ h => h) (Or.inl ⟨by rfl, ?_⟩) (by assumption) ?_
      rotate_left
      · intro w hSw; (try dsimp only at hSw); go_simp <;> with_reducible rfl
      try simp only [Act.put, List.setIfInBounds_toArray, List.set_cons_zero, List.set_cons_succ]
      refine wpPart_ready (rs := [18]) (by kernel_rfl) (by simp) ?_
      refine AllPart.last (o := { dst := none, op := Op.store 22 (Operand.tmp 50) (Operand.tmp 49), type := 0, pos := "ref.go:72", after := #[{ on := 17, ground := Ground.data }, { on := 16, ground := Ground.data }, { on := 16, ground := Ground.chain }, { on := 0, ground := Ground.phase }, { on := 1, ground := Ground.phase }, { on := 2, ground := Ground.phase }, { on := 3, ground := Ground.phase }, { on := 4, ground := Ground.phase }, { on := 5, ground := Ground.phase }, { on := 6, ground := Ground.phase }, { on := 7, ground := Ground.phase }, { on := 8, ground := Ground.phase }, { on := 9, ground := Ground.phase }, { on := 10, ground := Ground.phase }, { on := 11, ground := Ground.phase }, { on := 12, ground := Ground.phase }, { on := 13, ground := Ground.phase }, { on := 14, ground := Ground.phase }, { on := 15, ground := Ground.phase }, { on := 16, ground := Ground.phase }], guard := none }) rfl (by kernel_rfl) (fun K hK => ?_) AllPart.nil
      have hc := hHeld.2.1
      have hf := hHeld.2.2.1
      have HW := Lib.hid hHeld.2.2.2.2.1
      go_simp
      refine hK.out _ _ ?_
      clear hK K
      try simp only [Act.put, List.setIfInBounds_toArray, List.set_cons_zero, List.set_cons_succ]
      refine wpPart_done (by kernel_rfl) ?_ _
      go_wp2
      go_ret
      exact ⟨rfl, _, _, rfl, HW.out, HO2.out⟩
    exact AllPart.nil
  refine AllPart.cons (o := { dst := some 48, op := Op.buildSlice 22 1 #[(0, Operand.tmp 47)], type := 22, pos := "ref.go:72", after := #[{ on := 14, ground := Ground.data }], guard := none }) rfl (by kernel_rfl) (fun K hK => ?_) ?_
  · skip
    have hsz : w.heap.size ≤ u0.heap.size := hHeld.2.2.2.2.1.size
    go_simp
    refine hK.out _ _ ?_ (fun hHeld => ?_)
    · first | exact hS1 | exact PutMid.alloc hHeld _
    clear hK K
    try simp only [Act.put, List.setIfInBounds_toArray, List.set_cons_zero, List.set_cons_succ]
    have HB : Hid ((u0.alloc (Obj.cells #[.int .i64 x] 3)).heap[u0.heap.size]? = some (Obj.cells #[.int .i64 x] 3 (0, 0))) := blk_new _ _
    clear hsz
    generalize u0.heap.size = b15 at *
    generalize u0.alloc (Obj.cells #[.int .i64 x] 3) = u1 at *
    refine wpPart_ready (rs := [5]) (by kernel_rfl) (by simp) ?_
    refine AllPart.cons (o := { dst := some 38, op := Op.buildSlice 22 0 #[], type := 22, pos := "ref.go:72", after := #[], guard := none }) rfl (by kernel_rfl) (fun K hK => ?_) AllPart.nil
    have hsz : w.heap.size ≤ u1.heap.size := hHeld.2.2.2.2.1.size
    go_simp
    refine hK.out _ _ ?_ (fun hHeld => ?_)
    · first | exact hS1 | exact PutMid.alloc hHeld _
    clear hK K
    try simp only [Act.put, List.setIfInBounds_toArray, List.set_cons_zero, List.set_cons_succ]
    have HO : Hid ((u1.alloc (Obj.cells #[] 3)).ownsRow w.heap.size 3 1 (.slice (some ⟨u1.heap.size, 0, none⟩) 0 0) 0 []) := World.ownsRow_made u1 #[] 0 hsz (by unfold maxLen; omega) rfl
    have HB2 := Lib.hid (blk_alloc HB.out (Obj.cells #[] 3))
    have HNE : Hid (b15 ≠ u1.heap.size) := by have := blk_lt HB.out; show _ ≠ _; omega
    clear HB
    have HB := Lib.hid HB2.out
    clear HB2
    clear hsz
    generalize u1.heap.size = b5 at *
    generalize u1.alloc (Obj.cells #[] 3) = u2 at *
    refine wpPart_ready (rs := [13]) (by kernel_rfl) (by simp) ?_
    refine AllPart.cons (o := { dst := some 46, op := Op.call { callee := Callee.builtin Builtin.append, args := #[Operand.tmp 38, Operand.tmp 45], argTypes := #[22, 22] }, type := 22, pos := "ref.go:72", after := #[{ on := 5, ground := Ground.data }, { on := 12, ground := Ground.data }], guard := none }) rfl (by kernel_rfl) (fun K hK => ?_) AllPart.nil
    refine step_append_src (by rfl) _ _ 22 (by rfl) w.heap.size 3 i0 (.int .i64 0) 1 8 Try.underlying22 hii hz0 hz1 hz2 rfl (by omega) (.slice (some ⟨b5, 0, none⟩) 0 0) 0 [] (by rfl) HO.out (.slice A m c) m xs (by rfl) (HS.out.below hHeld.2.2.2.2.1) (by unfold maxLen; omega) (by omega) hHeld.2.2.2.2.1.size ?_
    intro v1 u3 hown hgrow _
    have hS1 := PutMid.grown hHeld HO.out hgrow
    simp only [Nat.zero_add, List.nil_append] at hown
    refine hK.out _ _ ?_ (fun hHeld => ?_)
    · first | exact hS1 | exact PutMid.alloc hHeld _
    clear hK K
    try simp only [Act.put, List.setIfInBounds_toArray, List.set_cons_zero, List.set_cons_succ]
    have HB2 := Lib.hid (blk_grown HB.out hgrow (fun j hj => by cases hj; exact HNE.out))
    clear HB HNE
    have HB := Lib.hid HB2.out
    clear HB2
    have HO1 := Lib.hid hown
    clear HO
    have HO := Lib.hid HO1.out
    clear HO1
    clear hown hgrow hS1
    refine wpPart_ready (rs := [16]) (by kernel_rfl) (by simp) ?_
    refine AllPart.cons (o := { dst := some 49, op := Op.call { callee := Callee.builtin Builtin.append, args := #[Operand.tmp 46, Operand.tmp 48], argTypes := #[22, 22] }, type := 22, pos := "ref.go:72", after := #[{ on := 13, ground := Ground.data }, { on := 15, ground := Ground.data }, { on := 13, ground := Ground.chain }], guard := none }) rfl (by kernel_rfl) (fun K hK => ?_) AllPart.nil
    refine step_append_src (by rfl) _ _ 22 (by rfl) w.heap.size 3 i0 (.int .i64 0) 1 8 Try.underlying22 hii hz0 hz1 hz2 rfl (by omega) v1 m xs (by rfl) HO.out (.slice (some ⟨b15, 0, none⟩) 1 1) 1 [.int .i64 x] (by rfl) (SrcOk.block HB.out rfl (fun j u hu => by rw [Nat.zero_add]; simpa using hu) (by simp [Value.oneCell'])) (by unfold maxLen; omega) (by omega) hHeld.2.2.2.2.1.size ?_
    intro v2 u4 hown hgrow _
    have hS1 := PutMid.grown hHeld HO.out hgrow
    obtain ⟨g2, c2, rfl, _, _⟩ := hown.form (by omega)
    have HO2 := Lib.hid hown
    refine hK.out _ _ ?_ (fun hHeld => ?_)
    · first | exact hS1 | exact PutMid.alloc hHeld _
    clear hK K
    try simp only [Act.put, List.setIfInBounds_toArray, List.set_cons_zero, List.set_cons_succ]
    clear hown hgrow hS1
    refine wpPart_take (i := 17) (oi := { dst := some 50, op := Op.indexAddr 47 (Operand.tmp 36) (Operand.tmp 37), type := 0, pos := "ref.go:72", after := #[{ on := 3, ground := Ground.data }, { on := 4, ground := Ground.data }, { on := 0, ground := Ground.phase }, { on := 1, ground := Ground.phase }, { on := 2, ground := Ground.phase }, { on := 3, ground := Ground.phase }, { on := 4, ground := Ground.phase }, { on := 5, ground := Ground.phase }, { on := 6, ground := Ground.phase }, { on := 7, ground := Ground.phase }, { on := 8, ground := Ground.phase }, { on := 9, ground := Ground.phase }, { on := 10, ground := Ground.phase }, { on := 11, ground := Ground.phase }, { on := 12, ground := Ground.phase }, { on := 13, ground := Ground.phase }, { on := 14, ground := Ground.phase }, { on := 15, ground := Ground.phase }, { on := 16, ground := Ground.phase }], guard := none }) (v := ?_) rfl (by kernel_rfl) (by kernel_rfl) (by kernel_rfl) (by kernel_rfl) (by kernel_rfl) (fun _ _ _ h => h) (Or.inl ⟨by rfl, ?_⟩) (by assumption) ?_
    rotate_left
    · intro w hSw; (try dsimp only at hSw); go_simp <;> with_reducible rfl
    try simp only [Act.put, List.setIfInBounds_toArray, List.set_cons_zero, List.set_cons_succ]
    refine wpPart_ready (rs := [18]) (by kernel_rfl) (by simp) ?_
    refine AllPart.last (o := { dst := none, op := Op.store 22 (Operand.tmp 50) (Operand.tmp 49), type := 0, pos := "ref.go:72", after := #[{ on := 17, ground := Ground.data }, { on := 16, ground := Ground.data }, { on := 16, ground := Ground.chain }, { on := 0, ground := Ground.phase }, { on := 1, ground := Ground.phase }, { on := 2, ground := Ground.phase }, { on := 3, ground := Ground.phase }, { on := 4, ground := Ground.phase }, { on := 5, ground := Ground.phase }, { on := 6, ground := Ground.phase }, { on := 7, ground := Ground.phase }, { on := 8, ground := Ground.phase }, { on := 9, ground := Ground.phase }, { on := 10, ground := Ground.phase }, { on := 11, ground := Ground.phase }, { on := 12, ground := Ground.phase }, { on := 13, ground := Ground.phase }, { on := 14, ground := Ground.phase }, { on := 15, ground := Ground.phase }, { on := 16, ground := Ground.phase }], guard := none }) rfl (by kernel_rfl) (fun K hK => ?_) AllPart.nil
    have hc := hHeld.2.1
    have hf := hHeld.2.2.1
    have HW := Lib.hid hHeld.2.2.2.2.1
    go_simp
    refine hK.out _ _ ?_
    clear hK K
    try simp only [Act.put, List.setIfInBounds_toArray, List.set_cons_zero, List.set_cons_succ]
    refine wpPart_done (by kernel_rfl) ?_ _
    go_wp2
    go_ret
    exact ⟨rfl, _, _, rfl, HW.out, HO2.out⟩
  exact AllPart.nil
end Go.Proofs.Ytmpeijlfflfkbaa
