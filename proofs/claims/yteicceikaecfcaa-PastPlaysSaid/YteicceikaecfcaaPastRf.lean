/-
  Package past: the reference's Take.
-/
import Derived.Test.YteicceikaecfcaaPastRe
namespace Go.Proofs.Yteicceikaecfcaa
open Go.RowKit Go.Shoal Go.Maps

theorem Try.infoInt : (Try.prog.info? 3).map (fun i => (i.zero, i.size, i.bytes)) = some (some (.int .i64 0), 1, 8) := by kernel_rfl
theorem int_one (L : List Nat) : ∀ u ∈ L.map (fun (k : Nat) => Value.int .i64 (k : Int)), u.oneCell' = true := by
  intro u hu
  obtain ⟨x, _, rfl⟩ := List.mem_map.1 hu
  rfl
theorem rt_cells {W : World} {R tR f t t' : Nat} {a b c d v : Value} {cs : Array Value} (h : W.heap[R]? = some (.cells #[a, b, c, d] t (0, 0))) (hk : W.heap[tR]? = some (.cells cs t' (0, 0))) (hv : cs[f]? = some v) :
    W.cell? ⟨R, 3, none⟩ = some d ∧ W.cell? ⟨tR, f, none⟩ = some v ∧ W.frozen? ⟨tR, f, none⟩ = false :=
  ⟨(blk_cell h 3).trans rfl, (blk_cell hk f).trans hv, blk_frozen hk f⟩
theorem rk5_cells {W : World} {R kR f t t' q o : Nat} {a b c d v x : Value} {cs : Array Value} (h : W.heap[R]? = some (.cells #[a, b, c, d] t (0, 0))) (hk : W.heap[kR]? = some (.cells cs t' (0, 0))) (hv : cs[f]? = some v) (hx : W.cell? ⟨q, o, none⟩ = some x) :
    W.cell? ⟨R, 2, none⟩ = some c ∧ W.cell? ⟨kR, f, none⟩ = some v ∧ W.frozen? ⟨kR, f, none⟩ = false ∧ W.cell? ⟨R, 1, none⟩ = some b ∧ W.cell? ⟨q, o, none⟩ = some x :=
  ⟨(blk_cell h 2).trans rfl, (blk_cell hk f).trans hv, blk_frozen hk f, (blk_cell h 1).trans rfl, hx⟩
theorem cell_tr {w w' : World} {S : Nat → Prop} {b i : Nat} {u : Value} (h : w.cell? ⟨b, i, none⟩ = some u) (hm : Mod S w w') (hs : ¬ S b) : w'.cell? ⟨b, i, none⟩ = some u :=
  (World.cell?_of_block (hm.block b (World.block_lt_of_cell? w _ h) hs)).trans h
theorem cell_none {w w' : World} {b i : Nat} {u : Value} (h : w.cell? ⟨b, i, none⟩ = some u) (hm : Mod (fun _ => False) w w') : w'.cell? ⟨b, i, none⟩ = some u := cell_tr h hm (fun x => x)
/-- What Take leaves. -/
def RTook (w : World) (R : Nat) (r : Re) (s' : Pa) (w' : World) : Prop := ∃ r', RAt w' R r' s' ∧ Mod (RMut R r) w w' ∧ ∀ b, RMut R r' b → RMut R r b
set_option maxHeartbeats 8000000 in
theorem rtake_not (R : Nat) (r : Re) (s : Pa) (p k : Nat) (m : Ms) (w : World) (h : RAt w R r s) (ok : s.Ok) (hp : p < s.n) (hk : s.all[k]? = some m) (hg : (s.got p).length ≤ 1000) (ho : s.open m k p = false) :
    Calls Try.prog 25 #[.pointer (some ⟨R, 0, none⟩), .int .i64 p, .int .i64 k] w fun e w' => e = .returned (.bool false) ∧ w = w' := by
  obtain ⟨-, c1, -, -⟩ := h.cells
  obtain ⟨b, o, cap, v, e, d0, d1, d2, d3, hb⟩ := h.elem hk
  rw [e] at c1
  have hlt := (List.getElem?_eq_some_iff.1 hk).1
  have hk0 : (0 : Int) ≤ (k : Int) := by omega
  have hk1 : (k : Int) < (s.all.length : Int) := by omega
  have hnb : (s.all.length : Int) ≤ 1000 := by have := ok.len; omega
  have HI := Lib.hid (rin_any m.to (p : Int) w (ok.to m (List.mem_of_getElem? hk)))
  have HT : Hid (Calls Try.prog 34 #[.pointer (some ⟨R, 0, none⟩), .int .i64 p, .int .i64 k] w fun e w' => e = .returned (.bool (inSet (s.had k) (p : Int))) ∧ w = w') := by
    rw [ok.hin k p hp]
    exact rtaken_any R r s p k w h hp hg ok.n16
  have HO : Hid ((inSet m.to (p : Int) && !inSet (s.had k) (p : Int)) = false) := ho
  clear h ok hb e hk hg ho
  generalize inSet m.to (p : Int) = x1 at *
  generalize inSet (s.had k) (p : Int) = x2 at *
  go_enter Try.func25, Try.ntmps25
  go_wp2_with fail
  refine HI.out.mono ?_
  rintro e w1 ⟨rfl, rfl⟩
  clear HI
  cases x1 with
  | false =>
    go_wp2
    go_ret
    exact ⟨rfl, rfl⟩
  | true =>
    go_wp2_with fail
    refine HT.out.mono ?_
    rintro e w1 ⟨rfl, rfl⟩
    clear HT
    cases x2 with
    | true =>
      go_wp2
      go_ret
      exact ⟨rfl, rfl⟩
    | false => cases HO.out
set_option maxRecDepth 100000 in
set_option maxHeartbeats 16000000 in
theorem rtake_yes (R : Nat) (r : Re) (s : Pa) (p k : Nat) (m : Ms) (tv : Value) (w : World) (h : RAt w R r s) (ok : s.Ok) (hp : p < s.n) (hk : s.all[k]? = some m) (hg : (s.got p).length ≤ 1000) (ho : s.open m k p = true) (hk1 : s.all.length < 1000) :
    Calls Try.prog 25 #[.pointer (some ⟨R, 0, none⟩), .int .i64 p, .int .i64 k] w fun e w' => e = .returned (.bool true) ∧ RTook w R r (s.took m k p tv) w' := by
  obtain ⟨i0, hii, hz0, hz1, hz2⟩ := info_parts Try.infoInt
  obtain ⟨b, o, c, va, hmv, d0, d1, d2, d3, hba⟩ := h.elem hk
  obtain ⟨rows, mv, kR, tR, kv, gv⟩ := r
  obtain rfl : mv = _ := hmv
  obtain ⟨A3, l3, c3, hkv⟩ := (h.ks p hp).form
  have hkv : kv p = .slice A3 l3 c3 := hkv
  obtain ⟨A2, c2, hgv⟩ := RowOf.form (h.gs p hp)
  have hgv : gv p = .slice A2 (s.got p).length c2 := hgv
  have HKV0 := Lib.hid hkv
  have HKV : Hid (((List.range s.n).map kv).toArray[p]? = some (.slice A3 l3 c3)) := by show _ = _; rw [row_at _ hp]; exact congrArg some hkv
  have hgs : RowOf w 3 1 (gv p) (s.got p).length ((s.got p).map fun (k : Nat) => Value.int .i64 (k : Int)) := h.gs p hp
  rw [hgv] at hgs
  obtain ⟨gl, hgl⟩ : ∃ gl, gl = (s.got p).length := ⟨_, rfl⟩
  rw [← hgl] at hgs hgv hg
  have HTV : Hid (((List.range s.n).map gv).toArray[p]? = some (.slice A2 gl c2)) := by show _ = _; rw [row_at _ hp]; exact congrArg some hgv
  have HG0 := Lib.hid hgs
  have HGE := Lib.hid hgl
  have HGL := Lib.hid hg
  have HVA := Lib.hid d3
  have HBA := Lib.hid hba
  have HK := Lib.hid hk
  have HT0 : Hid (w.heap[R]? = some (.cells #[.int .i64 (s.n : Int), .slice (some ⟨b, o, none⟩) s.all.length c, .slice (some ⟨kR, 0, none⟩) s.n s.n, .slice (some ⟨tR, 0, none⟩) s.n s.n] 62 (0, 0))) := h.top
  have HK0 : Hid (w.heap[tR]? = some (.cells ((List.range s.n).map gv).toArray 44 (0, 0))) := h.gt
  have HVB : Hid (¬ b = tR) := row_ne h.ms h.gt (by decide) b rfl
  have HBT : Hid (∀ q, va.ownBlock = some q → ¬ q = tR) := fun q hq e => by
    obtain ⟨cs, hc⟩ := hba.block hq
    exact blk_ne hc h.gt (by decide) e
  have HR := Lib.hid h
  have c1 := (blk_cell HT0.out 1).trans rfl
  have hlt := (List.getElem?_eq_some_iff.1 hk).1
  have hp0 : (0 : Int) ≤ (p : Int) := by omega
  have hp1 : (p : Int) < (s.n : Int) := by omega
  have hnb : (s.n : Int) ≤ 16 := by have := ok.n16; omega
  have hk0 : (0 : Int) ≤ (k : Int) := by omega
  have hkl : (k : Int) < (s.all.length : Int) := by omega
  have hlb : (s.all.length : Int) < 1000 := by omega
  have HK1 : Hid (k < 1000) := by show _ < _; omega
  have HI := Lib.hid (rin_any m.to (p : Int) w (ok.to m (List.mem_of_getElem? hk)))
  have HTK : Hid (Calls Try.prog 34 #[.pointer (some ⟨R, 0, none⟩), .int .i64 p, .int .i64 k] w fun e w' => e = .returned (.bool (inSet (s.had k) (p : Int))) ∧ w = w') := by
    rw [ok.hin k p hp]
    exact rtaken_any R _ s p k w h hp (by rw [← hgl]; exact hg) ok.n16
  have ho1 : inSet m.to (p : Int) = true := by unfold Pa.open at ho; simp at ho; exact ho.1
  have ho2 : inSet (s.had k) (p : Int) = false := by unfold Pa.open at ho; simp at ho; exact ho.2
  rw [ho1] at HI
  rw [ho2] at HTK
  clear h ok hk hg ho ho1 ho2 hkv hgv hgs hgl hba d0 d1 d3 hlt hk1
  go_enter Try.func25, Try.ntmps25
  go_wp2_with fail
  refine HI.out.mono ?_
  rintro e w1 ⟨rfl, rfl⟩
  clear HI
  go_wp2_with fail
  refine HTK.out.mono ?_
  rintro e w1 ⟨rfl, rfl⟩
  clear HTK c1 d2
  go_wp2_with fail
  have HM : Hid (Mod (fun _ => False) w w.drew) := (Mod.refl _ _).drew
  refine wp_region_part (S := fun w' => w'.cell? ⟨R, 3, none⟩ = some (.slice (some ⟨tR, 0, none⟩) s.n s.n) ∧ w'.cell? ⟨tR, p, none⟩ = some (.slice A2 gl c2) ∧ w'.frozen? ⟨tR, p, none⟩ = false) [18] (by kernel_rfl) ?_ (fun hHeld => ?_)
  · exact rt_cells (HM.out.blk HT0.out (fun x => x)) (HM.out.blk HK0.out (fun x => x)) HTV.out
  generalize w.drew = u0 at *
  refine wpPart_take (i := 0) (oi := { dst := some 24, op := Op.move (Operand.tmp 0), type := 50, pos := "ref.go:361", after := #[], guard := none }) (v := ?_) rfl (by kernel_rfl) (by kernel_rfl) (by kernel_rfl) (by kernel_rfl) (by kernel_rfl) (fun _ _ _ h => h) (Or.inl ⟨by rfl, ?_⟩) (by assumption) ?_
  rotate_left
  · intro w hSw; (try dsimp only at hSw); go_simp <;> with_reducible rfl
  try simp only [Act.put, List.setIfInBounds_toArray, List.set_cons_zero, List.set_cons_succ]
  refine wpPart_take (i := 1) (oi := { dst := some 25, op := Op.nilCheck (Operand.tmp 24), type := 0, pos := "ref.go:361", after := #[{ on := 0, ground := Ground.data }], guard := none }) (v := ?_) rfl (by kernel_rfl) (by kernel_rfl) (by kernel_rfl) (by kernel_rfl) (by kernel_rfl) (fun _ _ _ h => h) (Or.inl ⟨by rfl, ?_⟩) (by assumption) ?_
  rotate_left
  · intro w hSw; (try dsimp only at hSw); go_simp <;> with_reducible rfl
  try simp only [Act.put, List.setIfInBounds_toArray, List.set_cons_zero, List.set_cons_succ]
  refine wpPart_take (i := 2) (oi := { dst := some 26, op := Op.fieldAddr 62 (Operand.tmp 25) 3, type := 0, pos := "ref.go:361", after := #[{ on := 1, ground := Ground.data }], guard := none }) (v := ?_) rfl (by kernel_rfl) (by kernel_rfl) (by kernel_rfl) (by kernel_rfl) (by kernel_rfl) (fun _ _ _ h => h) (Or.inl ⟨by rfl, ?_⟩) (by assumption) ?_
  rotate_left
  · intro w hSw; (try dsimp only at hSw); go_simp <;> with_reducible rfl
  try simp only [Act.put, List.setIfInBounds_toArray, List.set_cons_zero, List.set_cons_succ]
  refine wpPart_take (i := 3) (oi := { dst := some 27, op := Op.load 60 (Operand.tmp 26), type := 60, pos := "ref.go:361", after := #[{ on := 2, ground := Ground.data }], guard := none }) (v := ?_) rfl (by kernel_rfl) (by kernel_rfl) (by kernel_rfl) (by kernel_rfl) (by kernel_rfl) (fun _ _ _ h => h) (Or.inl ⟨by rfl, ?_⟩) (by assumption) ?_
  rotate_left
  · intro w hSw; (try dsimp only at hSw); go_simp <;> with_reducible rfl
  try simp only [Act.put, List.setIfInBounds_toArray, List.set_cons_zero, List.set_cons_succ]
  refine wpPart_take (i := 4) (oi := { dst := some 28, op := Op.move (Operand.tmp 1), type := 3, pos := "ref.go:361", after := #[], guard := none }) (v := ?_) rfl (by kernel_rfl) (by kernel_rfl) (by kernel_rfl) (by kernel_rfl) (by kernel_rfl) (fun _ _ _ h => h) (Or.inl ⟨by rfl, ?_⟩) (by assumption) ?_
  rotate_left
  · intro w hSw; (try dsimp only at hSw); go_simp <;> with_reducible rfl
  try simp only [Act.put, List.setIfInBounds_toArray, List.set_cons_zero, List.set_cons_succ]
  refine wpPart_take (i := 6) (oi := { dst := some 30, op := Op.move (Operand.tmp 0), type := 50, pos := "ref.go:361", after := #[], guard := none }) (v := ?_) rfl (by kernel_rfl) (by kernel_rfl) (by kernel_rfl) (by kernel_rfl) (by kernel_rfl) (fun _ _ _ h => h) (Or.inl ⟨by rfl, ?_⟩) (by assumption) ?_
  rotate_left
  · intro w hSw; (try dsimp only at hSw); go_simp <;> with_reducible rfl
  try simp only [Act.put, List.setIfInBounds_toArray, List.set_cons_zero, List.set_cons_succ]
  refine wpPart_take (i := 7) (oi := { dst := some 31, op := Op.nilCheck (Operand.tmp 30), type := 0, pos := "ref.go:361", after := #[{ on := 6, ground := Ground.data }], guard := none }) (v := ?_) rfl (by kernel_rfl) (by kernel_rfl) (by kernel_rfl) (by kernel_rfl) (by kernel_rfl) (fun _ _ _ h => h) (Or.inl ⟨by rfl, ?_⟩) (by assumption) ?_
  rotate_left
  · intro w hSw; (try dsimp only at hSw); go_simp <;> with_reducible rfl
  try simp only [Act.put, List.setIfInBounds_toArray, List.set_cons_zero, List.set_cons_succ]
  refine wpPart_take (i := 8) (oi := { dst := some 32, op := Op.fieldAddr 62 (Operand.tmp 31) 3, type := 0, pos := "ref.go:361", after := #[{ on := 7, ground := Ground.data }], guard := none }) (v := ?_) rfl (by kernel_rfl) (by kernel_rfl) (by kernel_rfl) (by kernel_rfl) (by kernel_rfl) (fun _ _ _ h => h) (Or.inl ⟨by rfl, ?_⟩) (by assumption) ?_
  rotate_left
  · intro w hSw; (try dsimp only at hSw); go_simp <;> with_reducible rfl
  try simp only [Act.put, List.setIfInBounds_toArray, List.set_cons_zero, List.set_cons_succ]
  refine wpPart_take (i := 9) (oi := { dst := some 33, op := Op.load 60 (Operand.tmp 32), type := 60, pos := "ref.go:361", after := #[{ on := 8, ground := Ground.data }], guard := none }) (v := ?_) rfl (by kernel_rfl) (by kernel_rfl) (by kernel_rfl) (by kernel_rfl) (by kernel_rfl) (fun _ _ _ h => h) (Or.inl ⟨by rfl, ?_⟩) (by assumption) ?_
  rotate_left
  · intro w hSw; (try dsimp only at hSw); go_simp <;> with_reducible rfl
  try simp only [Act.put, List.setIfInBounds_toArray, List.set_cons_zero, List.set_cons_succ]
  refine wpPart_take (i := 10) (oi := { dst := some 34, op := Op.move (Operand.tmp 1), type := 3, pos := "ref.go:361", after := #[], guard := none }) (v := ?_) rfl (by kernel_rfl) (by kernel_rfl) (by kernel_rfl) (by kernel_rfl) (by kernel_rfl) (fun _ _ _ h => h) (Or.inl ⟨by rfl, ?_⟩) (by assumption) ?_
  rotate_left
  · intro w hSw; (try dsimp only at hSw); go_simp <;> with_reducible rfl
  try simp only [Act.put, List.setIfInBounds_toArray, List.set_cons_zero, List.set_cons_succ]
  refine wpPart_take (i := 11) (oi := { dst := some 35, op := Op.indexAddr 60 (Operand.tmp 33) (Operand.tmp 34), type := 0, pos := "ref.go:361", after := #[{ on := 9, ground := Ground.data }, { on := 10, ground := Ground.data }], guard := none }) (v := ?_) rfl (by kernel_rfl) (by kernel_rfl) (by kernel_rfl) (by kernel_rfl) (by kernel_rfl) (fun _ _ _ h => h) (Or.inl ⟨by rfl, ?_⟩) (by assumption) ?_
  rotate_left
  · intro w hSw; (try dsimp only at hSw); go_simp <;> with_reducible rfl
  try simp only [Act.put, List.setIfInBounds_toArray, List.set_cons_zero, List.set_cons_succ]
  refine wpPart_take (i := 12) (oi := { dst := some 36, op := Op.load 44 (Operand.tmp 35), type := 44, pos := "ref.go:361", after := #[{ on := 11, ground := Ground.data }], guard := none }) (v := ?_) rfl (by kernel_rfl) (by kernel_rfl) (by kernel_rfl) (by kernel_rfl) (by kernel_rfl) (fun _ _ _ h => h) (Or.inl ⟨by rfl, ?_⟩) (by assumption) ?_
  rotate_left
  · intro w hSw; (try dsimp only at hSw); go_simp <;> with_reducible rfl
  try simp only [Act.put, List.setIfInBounds_toArray, List.set_cons_zero, List.set_cons_succ]
  refine wpPart_take (i := 14) (oi := { dst := some 38, op := Op.move (Operand.tmp 2), type := 3, pos := "ref.go:361", after := #[], guard := none }) (v := ?_) rfl (by kernel_rfl) (by kernel_rfl) (by kernel_rfl) (by kernel_rfl) (by kernel_rfl) (fun _ _ _ h => h) (Or.inl ⟨by rfl, ?_⟩) (by assumption) ?_
  rotate_left
  · intro w hSw; (try dsimp only at hSw); go_simp <;> with_reducible rfl
  try simp only [Act.put, List.setIfInBounds_toArray, List.set_cons_zero, List.set_cons_succ]
  refine wpPart_ready (rs := [5, 15]) (by kernel_rfl) (by simp) ?_
  refine AllPart.cons (o := { dst := some 29, op := Op.buildSlice 44 0 #[], type := 44, pos := "ref.go:361", after := #[], guard := none }) rfl (by kernel_rfl) (fun K hK => ?_) ?_
  · skip
    go_simp
    refine hK.out _ _ ?_ (fun hHeld => ?_)
    · exact rt_cells ((HM.out.alloc _).blk HT0.out (fun x => x)) ((HM.out.alloc _).blk HK0.out (fun x => x)) HTV.out
    clear hK K
    try simp only [Act.put, List.setIfInBounds_toArray, List.set_cons_zero, List.set_cons_succ]
    have HN5 : Hid (w.heap.size ≤ u0.heap.size) := HM.out.size
    have HE1 : Hid (RowOf (u0.alloc (Obj.cells #[] 3)) 3 1 (.slice (some ⟨u0.heap.size, 0, none⟩) 0 0) 0 []) := RowOf.new u0 #[] 3 1 0 rfl (Nat.zero_le _)
    have HM := Lib.hid (HM.out.alloc (Obj.cells #[] 3))
    generalize u0.alloc (Obj.cells #[] 3) = v5 at *
    refine wpPart_ready (rs := [13, 15]) (by kernel_rfl) (by simp) ?_
    refine AllPart.cons (o := { dst := some 37, op := Op.call { callee := Callee.builtin Builtin.append, args := #[Operand.tmp 29, Operand.tmp 36], argTypes := #[44, 44] }, type := 44, pos := "ref.go:361", after := #[{ on := 5, ground := Ground.data }, { on := 12, ground := Ground.data }], guard := none }) rfl (by kernel_rfl) (fun K hK => ?_) ?_
    · skip
      refine step_append_row (by rfl) _ _ 44 (by rfl) i0 (.int .i64 0) 8 Try.underlying44 hii hz0 hz1 hz2 (by rfl) (by omega) (by rfl) HE1.out (by simp) _ gl ((s.got p).map fun (k : Nat) => Value.int .i64 (k : Int)) (by rfl) (RowOf.src (HG0.out.mod HM.out (fun _ _ x => x)) (int_one _)) (by have := HGL.out; unfold maxLen; omega) (by have := HGL.out; omega) ?_
      intro g2 v13 hrow hgrow hat
      have HM0 := HM
      have HM := Lib.hid (HM.out.grown hgrow (fun q hq => by cases hq; exact HN5.out))
      have hS1 := rt_cells (HM.out.blk HT0.out (fun x => x)) (HM.out.blk HK0.out (fun x => x)) HTV.out
      refine hK.out _ _ ?_ (fun hHeld => ?_)
      · exact hS1
      clear hK K
      try simp only [Act.put, List.setIfInBounds_toArray, List.set_cons_zero, List.set_cons_succ]
      clear hS1
      have HGO : Hid (∀ q, g2.ownBlock = some q → w.heap.size ≤ q) := fun q hq => by
        rcases hat with e | e
        · rw [e] at hq; cases hq; exact HN5.out
        · rw [e] at hq; cases hq; exact HM0.out.size
      have hG1 : RowOf v13 3 1 g2 gl ((s.got p).map fun (k : Nat) => Value.int .i64 (k : Int)) := by simpa using hrow
      have HG1 := Lib.hid hG1
      clear hG1
      obtain ⟨A5, k5, hf5⟩ := HG1.out.form
      obtain rfl : g2 = _ := hf5
      clear hrow hgrow hat HM0
      refine wpPart_ready (rs := [15]) (by kernel_rfl) (by simp) ?_
      refine AllPart.cons (o := { dst := some 39, op := Op.buildSlice 44 1 #[(0, Operand.tmp 38)], type := 44, pos := "ref.go:361", after := #[{ on := 14, ground := Ground.data }], guard := none }) rfl (by kernel_rfl) (fun K hK => ?_) AllPart.nil
      go_simp
      refine hK.out _ _ ?_ (fun hHeld => ?_)
      · exact rt_cells ((HM.out.alloc _).blk HT0.out (fun x => x)) ((HM.out.alloc _).blk HK0.out (fun x => x)) HTV.out
      clear hK K
      try simp only [Act.put, List.setIfInBounds_toArray, List.set_cons_zero, List.set_cons_succ]
      have HB1 := Lib.hid (blk_new v13 (Obj.cells #[.int .i64 (k : Int)] 3))
      have HG1 := Lib.hid (HG1.out.alloc (Obj.cells #[.int .i64 (k : Int)] 3))
      have HM := Lib.hid (HM.out.alloc (Obj.cells #[.int .i64 (k : Int)] 3))
      generalize v13.alloc (Obj.cells #[.int .i64 (k : Int)] 3) = v15 at *
      refine wpPart_ready (rs := [16]) (by kernel_rfl) (by simp) ?_
      refine AllPart.cons (o := { dst := some 40, op := Op.call { callee := Callee.builtin Builtin.append, args := #[Operand.tmp 37, Operand.tmp 39], argTypes := #[44, 44] }, type := 44, pos := "ref.go:361", after := #[{ on := 13, ground := Ground.data }, { on := 15, ground := Ground.data }, { on := 13, ground := Ground.chain }], guard := none }) rfl (by kernel_rfl) (fun K hK => ?_) AllPart.nil
      refine step_append_row (by rfl) _ _ 44 (by rfl) i0 (.int .i64 0) 8 Try.underlying44 hii hz0 hz1 hz2 (by rfl) (by omega) (by rfl) HG1.out (int_one _) _ 1 [.int .i64 (k : Int)] (by rfl) (SrcOk.block HB1.out rfl (fun j u hu => by rw [Nat.zero_add]; simpa using hu) (by simp [Value.oneCell'])) (by have := HGL.out; unfold maxLen; omega) (by have := HGL.out; omega) ?_
      intro g3 v16 hrow3 hgrow3 hat3
      have HM := Lib.hid (HM.out.grown hgrow3 HGO.out)
      have hS1 := rt_cells (HM.out.blk HT0.out (fun x => x)) (HM.out.blk HK0.out (fun x => x)) HTV.out
      have HG3 := Lib.hid hrow3
      obtain ⟨A6, k6, hf6⟩ := hrow3.form
      obtain rfl : g3 = _ := hf6
      clear hrow3 hgrow3 hat3
      refine hK.out _ _ ?_ (fun hHeld => ?_)
      · exact hS1
      clear hK K
      try simp only [Act.put, List.setIfInBounds_toArray, List.set_cons_zero, List.set_cons_succ]
      clear hS1
      refine wpPart_take (i := 17) (oi := { dst := some 41, op := Op.indexAddr 60 (Operand.tmp 27) (Operand.tmp 28), type := 0, pos := "ref.go:361", after := #[{ on := 3, ground := Ground.data }, { on := 4, ground := Ground.data }, { on := 0, ground := Ground.phase }, { on := 1, ground := Ground.phase }, { on := 2, ground := Ground.phase }, { on := 3, ground := Ground.phase }, { on := 4, ground := Ground.phase }, { on := 5, ground := Ground.phase }, { on := 6, ground := Ground.phase }, { on := 7, ground := Ground.phase }, { on := 8, ground := Ground.phase }, { on := 9, ground := Ground.phase }, { on := 10, ground := Ground.phase }, { on := 11, ground := Ground.phase }, { on := 12, ground := Ground.phase }, { on := 13, ground := Ground.phase }, { on := 14, ground := Ground.phase }, { on := 15, ground := Ground.phase }, { on := 16, ground := Ground.phase }], guard := none }) (v := ?_) rfl (by kernel_rfl) (by kernel_rfl) (by kernel_rfl) (by kernel_rfl) (by kernel_rfl) (fun _ _ _ h => h) (Or.inl ⟨by rfl, ?_⟩) (by assumption) ?_
      rotate_left
      · intro w hSw; (try dsimp only at hSw); go_simp <;> with_reducible rfl
      try simp only [Act.put, List.setIfInBounds_toArray, List.set_cons_zero, List.set_cons_succ]
      refine wpPart_ready (rs := [18]) (by kernel_rfl) (by simp) ?_
      refine AllPart.last (o := { dst := none, op := Op.store 44 (Operand.tmp 41) (Operand.tmp 40), type := 0, pos := "ref.go:361", after := #[{ on := 17, ground := Ground.data }, { on := 16, ground := Ground.data }, { on := 16, ground := Ground.chain }, { on := 0, ground := Ground.phase }, { on := 1, ground := Ground.phase }, { on := 2, ground := Ground.phase }, { on := 3, ground := Ground.phase }, { on := 4, ground := Ground.phase }, { on := 5, ground := Ground.phase }, { on := 6, ground := Ground.phase }, { on := 7, ground := Ground.phase }, { on := 8, ground := Ground.phase }, { on := 9, ground := Ground.phase }, { on := 10, ground := Ground.phase }, { on := 11, ground := Ground.phase }, { on := 12, ground := Ground.phase }, { on := 13, ground := Ground.phase }, { on := 14, ground := Ground.phase }, { on := 15, ground := Ground.phase }, { on := 16, ground := Ground.phase }], guard := none }) rfl (by kernel_rfl) (fun K hK => ?_) AllPart.nil
      have hc := hHeld.2.1
      have hf := hHeld.2.2
      go_simp
      refine hK.out _ _ ?_
      clear hK K
      try simp only [Act.put, List.setIfInBounds_toArray, List.set_cons_zero, List.set_cons_succ]
      clear hc hf
      refine wpPart_done (by kernel_rfl) ?_ _
      have hR3 := (HR.out.same HM.out).gots (p := p) (v := .slice A6 (gl + 1) k6) (G := s.got p ++ [k]) (by rw [List.length_append, ← HGE.out]; simpa using HG3.out)
      have HR4 := Lib.hid hR3
      have HM4 : Hid (Mod (fun b => b = tR) w (v16.setCell ⟨tR, p, none⟩ (.slice A6 (gl + 1) k6))) := (HM.out.mono (fun _ _ x => x.elim)).trans (mod_one _ _ _ _)
      clear hR3 HM HG3 HGO HG1 HB1 HE1 HN5 HT0 HK0
      generalize v16.setCell ⟨tR, p, none⟩ (.slice A6 (gl + 1) k6) = w4 at *
      have HT9 : Hid (w4.drew.heap[R]? = some (.cells #[.int .i64 (s.n : Int), .slice (some ⟨b, o, none⟩) s.all.length c, .slice (some ⟨kR, 0, none⟩) s.n s.n, .slice (some ⟨tR, 0, none⟩) s.n s.n] 62 (0, 0))) := HR4.out.top
      have HK9 : Hid (w4.drew.heap[kR]? = some (.cells ((List.range s.n).map kv).toArray 55 (0, 0))) := HR4.out.kn
      have HV9 : Hid (w4.drew.cell? ⟨b, o + k * 4 + 3, none⟩ = some va) := by
        obtain ⟨b', o', cap', v', e', -, -, -, q3, -⟩ := HR4.out.elem (k := k) (m := m) HK.out
        have e' : Value.slice (some ⟨b, o, none⟩) s.all.length c = .slice (some ⟨b', o', none⟩) s.all.length cap' := e'
        cases e'
        exact cell_tr (S := fun b => b = tR) HVA.out HM4.out.drew HVB.out
      have HBO : Hid (Calls Try.prog 33 #[.slice A3 l3 c3, va, .int .i64 (k : Int)] w4.drew fun e w' => ∃ v, e = .returned v ∧ Bits w' v (fun j => (s.knows p j || m.ahead j) || j == k) ∧ Mod (fun _ => False) w4.drew w') := by
        rw [← HKV0.out]
        exact rboth_any _ _ (s.knows p) m.ahead k w4.drew ((HR4.out.ks p hp).quiet (Mod.refl _ _).drew) ((HBA.out.mod HM4.out (fun q hq e => HBT.out q hq e)).quiet (Mod.refl _ _).drew) HK1.out
      have HD4 : Hid (Mod (fun _ => False) w4 w4.drew) := (Mod.refl _ _).drew
      go_wp2_with fail
      refine wp_region_part (S := fun w' => w'.cell? ⟨R, 2, none⟩ = some (.slice (some ⟨kR, 0, none⟩) s.n s.n) ∧ w'.cell? ⟨kR, p, none⟩ = some (.slice A3 l3 c3) ∧ w'.frozen? ⟨kR, p, none⟩ = false ∧ w'.cell? ⟨R, 1, none⟩ = some (.slice (some ⟨b, o, none⟩) s.all.length c) ∧ w'.cell? ⟨b, o + k * 4 + 3, none⟩ = some va) [23] (by kernel_rfl) ?_ (fun hHeld => ?_)
      · exact rk5_cells (W := w4.drew) HT9.out HK9.out HKV.out HV9.out
      generalize w4.drew = u4 at *
      refine wpPart_take (i := 0) (oi := { dst := some 42, op := Op.move (Operand.tmp 0), type := 50, pos := "ref.go:362", after := #[], guard := none }) (v := ?_) rfl (by kernel_rfl) (by kernel_rfl) (by kernel_rfl) (by kernel_rfl) (by kernel_rfl) (fun _ _ _ h => h) (Or.inl ⟨by rfl, ?_⟩) (by assumption) ?_
      rotate_left
      · intro w hSw; (try dsimp only at hSw); go_simp <;> with_reducible rfl
      try simp only [Act.put, List.setIfInBounds_toArray, List.set_cons_zero, List.set_cons_succ]
      refine wpPart_take (i := 1) (oi := { dst := some 43, op := Op.nilCheck (Operand.tmp 42), type := 0, pos := "ref.go:362", after := #[{ on := 0, ground := Ground.data }], guard := none }) (v := ?_) rfl (by kernel_rfl) (by kernel_rfl) (by kernel_rfl) (by kernel_rfl) (by kernel_rfl) (fun _ _ _ h => h) (Or.inl ⟨by rfl, ?_⟩) (by assumption) ?_
      rotate_left
      · intro w hSw; (try dsimp only at hSw); go_simp <;> with_reducible rfl
      try simp only [Act.put, List.setIfInBounds_toArray, List.set_cons_zero, List.set_cons_succ]
      refine wpPart_take (i := 2) (oi := { dst := some 44, op := Op.fieldAddr 62 (Operand.tmp 43) 2, type := 0, pos := "ref.go:362", after := #[{ on := 1, ground := Ground.data }], guard := none }) (v := ?_) rfl (by kernel_rfl) (by kernel_rfl) (by kernel_rfl) (by kernel_rfl) (by kernel_rfl) (fun _ _ _ h => h) (Or.inl ⟨by rfl, ?_⟩) (by assumption) ?_
      rotate_left
      · intro w hSw; (try dsimp only at hSw); go_simp <;> with_reducible rfl
      try simp only [Act.put, List.setIfInBounds_toArray, List.set_cons_zero, List.set_cons_succ]
      refine wpPart_take (i := 3) (oi := { dst := some 45, op := Op.load 59 (Operand.tmp 44), type := 59, pos := "ref.go:362", after := #[{ on := 2, ground := Ground.data }], guard := none }) (v := ?_) rfl (by kernel_rfl) (by kernel_rfl) (by kernel_rfl) (by kernel_rfl) (by kernel_rfl) (fun _ _ _ h => h) (Or.inl ⟨by rfl, ?_⟩) (by assumption) ?_
      rotate_left
      · intro w hSw; (try dsimp only at hSw); go_simp <;> with_reducible rfl
      try simp only [Act.put, List.setIfInBounds_toArray, List.set_cons_zero, List.set_cons_succ]
      refine wpPart_take (i := 4) (oi := { dst := some 46, op := Op.move (Operand.tmp 1), type := 3, pos := "ref.go:362", after := #[], guard := none }) (v := ?_) rfl (by kernel_rfl) (by kernel_rfl) (by kernel_rfl) (by kernel_rfl) (by kernel_rfl) (fun _ _ _ h => h) (Or.inl ⟨by rfl, ?_⟩) (by assumption) ?_
      rotate_left
      · intro w hSw; (try dsimp only at hSw); go_simp <;> with_reducible rfl
      try simp only [Act.put, List.setIfInBounds_toArray, List.set_cons_zero, List.set_cons_succ]
      refine wpPart_take (i := 5) (oi := { dst := some 47, op := Op.move (Operand.tmp 0), type := 50, pos := "ref.go:362", after := #[], guard := none }) (v := ?_) rfl (by kernel_rfl) (by kernel_rfl) (by kernel_rfl) (by kernel_rfl) (by kernel_rfl) (fun _ _ _ h => h) (Or.inl ⟨by rfl, ?_⟩) (by assumption) ?_
      rotate_left
      · intro w hSw; (try dsimp only at hSw); go_simp <;> with_reducible rfl
      try simp only [Act.put, List.setIfInBounds_toArray, List.set_cons_zero, List.set_cons_succ]
      refine wpPart_take (i := 6) (oi := { dst := some 48, op := Op.nilCheck (Operand.tmp 47), type := 0, pos := "ref.go:362", after := #[{ on := 5, ground := Ground.data }], guard := none }) (v := ?_) rfl (by kernel_rfl) (by kernel_rfl) (by kernel_rfl) (by kernel_rfl) (by kernel_rfl) (fun _ _ _ h => h) (Or.inl ⟨by rfl, ?_⟩) (by assumption) ?_
      rotate_left
      · intro w hSw; (try dsimp only at hSw); go_simp <;> with_reducible rfl
      try simp only [Act.put, List.setIfInBounds_toArray, List.set_cons_zero, List.set_cons_succ]
      refine wpPart_take (i := 7) (oi := { dst := some 49, op := Op.fieldAddr 62 (Operand.tmp 48) 2, type := 0, pos := "ref.go:362", after := #[{ on := 6, ground := Ground.data }], guard := none }) (v := ?_) rfl (by kernel_rfl) (by kernel_rfl) (by kernel_rfl) (by kernel_rfl) (by kernel_rfl) (fun _ _ _ h => h) (Or.inl ⟨by rfl, ?_⟩) (by assumption) ?_
      rotate_left
      · intro w hSw; (try dsimp only at hSw); go_simp <;> with_reducible rfl
      try simp only [Act.put, List.setIfInBounds_toArray, List.set_cons_zero, List.set_cons_succ]
      refine wpPart_take (i := 8) (oi := { dst := some 50, op := Op.load 59 (Operand.tmp 49), type := 59, pos := "ref.go:362", after := #[{ on := 7, ground := Ground.data }], guard := none }) (v := ?_) rfl (by kernel_rfl) (by kernel_rfl) (by kernel_rfl) (by kernel_rfl) (by kernel_rfl) (fun _ _ _ h => h) (Or.inl ⟨by rfl, ?_⟩) (by assumption) ?_
      rotate_left
      · intro w hSw; (try dsimp only at hSw); go_simp <;> with_reducible rfl
      try simp only [Act.put, List.setIfInBounds_toArray, List.set_cons_zero, List.set_cons_succ]
      refine wpPart_take (i := 9) (oi := { dst := some 51, op := Op.move (Operand.tmp 1), type := 3, pos := "ref.go:362", after := #[], guard := none }) (v := ?_) rfl (by kernel_rfl) (by kernel_rfl) (by kernel_rfl) (by kernel_rfl) (by kernel_rfl) (fun _ _ _ h => h) (Or.inl ⟨by rfl, ?_⟩) (by assumption) ?_
      rotate_left
      · intro w hSw; (try dsimp only at hSw); go_simp <;> with_reducible rfl
      try simp only [Act.put, List.setIfInBounds_toArray, List.set_cons_zero, List.set_cons_succ]
      refine wpPart_take (i := 10) (oi := { dst := some 52, op := Op.indexAddr 59 (Operand.tmp 50) (Operand.tmp 51), type := 0, pos := "ref.go:362", after := #[{ on := 8, ground := Ground.data }, { on := 9, ground := Ground.data }], guard := none }) (v := ?_) rfl (by kernel_rfl) (by kernel_rfl) (by kernel_rfl) (by kernel_rfl) (by kernel_rfl) (fun _ _ _ h => h) (Or.inl ⟨by rfl, ?_⟩) (by assumption) ?_
      rotate_left
      · intro w hSw; (try dsimp only at hSw); go_simp <;> with_reducible rfl
      try simp only [Act.put, List.setIfInBounds_toArray, List.set_cons_zero, List.set_cons_succ]
      refine wpPart_take (i := 11) (oi := { dst := some 53, op := Op.load 55 (Operand.tmp 52), type := 55, pos := "ref.go:362", after := #[{ on := 10, ground := Ground.data }], guard := none }) (v := ?_) rfl (by kernel_rfl) (by kernel_rfl) (by kernel_rfl) (by kernel_rfl) (by kernel_rfl) (fun _ _ _ h => h) (Or.inl ⟨by rfl, ?_⟩) (by assumption) ?_
      rotate_left
      · intro w hSw; (try dsimp only at hSw); go_simp <;> with_reducible rfl
      try simp only [Act.put, List.setIfInBounds_toArray, List.set_cons_zero, List.set_cons_succ]
      refine wpPart_take (i := 12) (oi := { dst := some 54, op := Op.move (Operand.tmp 0), type := 50, pos := "ref.go:362", after := #[], guard := none }) (v := ?_) rfl (by kernel_rfl) (by kernel_rfl) (by kernel_rfl) (by kernel_rfl) (by kernel_rfl) (fun _ _ _ h => h) (Or.inl ⟨by rfl, ?_⟩) (by assumption) ?_
      rotate_left
      · intro w hSw; (try dsimp only at hSw); go_simp <;> with_reducible rfl
      try simp only [Act.put, List.setIfInBounds_toArray, List.set_cons_zero, List.set_cons_succ]
      refine wpPart_take (i := 13) (oi := { dst := some 55, op := Op.nilCheck (Operand.tmp 54), type := 0, pos := "ref.go:362", after := #[{ on := 12, ground := Ground.data }], guard := none }) (v := ?_) rfl (by kernel_rfl) (by kernel_rfl) (by kernel_rfl) (by kernel_rfl) (by kernel_rfl) (fun _ _ _ h => h) (Or.inl ⟨by rfl, ?_⟩) (by assumption) ?_
      rotate_left
      · intro w hSw; (try dsimp only at hSw); go_simp <;> with_reducible rfl
      try simp only [Act.put, List.setIfInBounds_toArray, List.set_cons_zero, List.set_cons_succ]
      refine wpPart_take (i := 14) (oi := { dst := some 56, op := Op.fieldAddr 62 (Operand.tmp 55) 1, type := 0, pos := "ref.go:362", after := #[{ on := 13, ground := Ground.data }], guard := none }) (v := ?_) rfl (by kernel_rfl) (by kernel_rfl) (by kernel_rfl) (by kernel_rfl) (by kernel_rfl) (fun _ _ _ h => h) (Or.inl ⟨by rfl, ?_⟩) (by assumption) ?_
      rotate_left
      · intro w hSw; (try dsimp only at hSw); go_simp <;> with_reducible rfl
      try simp only [Act.put, List.setIfInBounds_toArray, List.set_cons_zero, List.set_cons_succ]
      refine wpPart_take (i := 15) (oi := { dst := some 57, op := Op.load 58 (Operand.tmp 56), type := 58, pos := "ref.go:362", after := #[{ on := 14, ground := Ground.data }], guard := none }) (v := ?_) rfl (by kernel_rfl) (by kernel_rfl) (by kernel_rfl) (by kernel_rfl) (by kernel_rfl) (fun _ _ _ h => h) (Or.inl ⟨by rfl, ?_⟩) (by assumption) ?_
      rotate_left
      · intro w hSw; (try dsimp only at hSw); go_simp <;> with_reducible rfl
      try simp only [Act.put, List.setIfInBounds_toArray, List.set_cons_zero, List.set_cons_succ]
      refine wpPart_take (i := 16) (oi := { dst := some 58, op := Op.move (Operand.tmp 2), type := 3, pos := "ref.go:362", after := #[], guard := none }) (v := ?_) rfl (by kernel_rfl) (by kernel_rfl) (by kernel_rfl) (by kernel_rfl) (by kernel_rfl) (fun _ _ _ h => h) (Or.inl ⟨by rfl, ?_⟩) (by assumption) ?_
      rotate_left
      · intro w hSw; (try dsimp only at hSw); go_simp <;> with_reducible rfl
      try simp only [Act.put, List.setIfInBounds_toArray, List.set_cons_zero, List.set_cons_succ]
      refine wpPart_take (i := 17) (oi := { dst := some 59, op := Op.indexAddr 58 (Operand.tmp 57) (Operand.tmp 58), type := 0, pos := "ref.go:362", after := #[{ on := 15, ground := Ground.data }, { on := 16, ground := Ground.data }], guard := none }) (v := ?_) rfl (by kernel_rfl) (by kernel_rfl) (by kernel_rfl) (by kernel_rfl) (by kernel_rfl) (fun _ _ _ h => h) (Or.inl ⟨by rfl, ?_⟩) (by assumption) ?_
      rotate_left
      · intro w hSw; (try dsimp only at hSw); go_simp <;> with_reducible rfl
      try simp only [Act.put, List.setIfInBounds_toArray, List.set_cons_zero, List.set_cons_succ]
      refine wpPart_take (i := 18) (oi := { dst := some 60, op := Op.fieldAddr 57 (Operand.tmp 59) 3, type := 0, pos := "ref.go:362", after := #[{ on := 17, ground := Ground.data }], guard := none }) (v := ?_) rfl (by kernel_rfl) (by kernel_rfl) (by kernel_rfl) (by kernel_rfl) (by kernel_rfl) (fun _ _ _ h => h) (Or.inl ⟨by rfl, ?_⟩) (by assumption) ?_
      rotate_left
      · intro w hSw; (try dsimp only at hSw); go_simp <;> with_reducible rfl
      try simp only [Act.put, List.setIfInBounds_toArray, List.set_cons_zero, List.set_cons_succ]
      refine wpPart_take (i := 19) (oi := { dst := some 61, op := Op.load 55 (Operand.tmp 60), type := 55, pos := "ref.go:362", after := #[{ on := 18, ground := Ground.data }], guard := none }) (v := ?_) rfl (by kernel_rfl) (by kernel_rfl) (by kernel_rfl) (by kernel_rfl) (by kernel_rfl) (fun _ _ _ h => h) (Or.inl ⟨by rfl, ?_⟩) (by assumption) ?_
      rotate_left
      · intro w hSw; (try dsimp only at hSw); go_simp <;> with_reducible rfl
      try simp only [Act.put, List.setIfInBounds_toArray, List.set_cons_zero, List.set_cons_succ]
      refine wpPart_take (i := 20) (oi := { dst := some 62, op := Op.move (Operand.tmp 2), type := 3, pos := "ref.go:362", after := #[], guard := none }) (v := ?_) rfl (by kernel_rfl) (by kernel_rfl) (by kernel_rfl) (by kernel_rfl) (by kernel_rfl) (fun _ _ _ h => h) (Or.inl ⟨by rfl, ?_⟩) (by assumption) ?_
      rotate_left
      · intro w hSw; (try dsimp only at hSw); go_simp <;> with_reducible rfl
      try simp only [Act.put, List.setIfInBounds_toArray, List.set_cons_zero, List.set_cons_succ]
      refine wpPart_ready (rs := [21]) (by kernel_rfl) (by simp) ?_
      refine AllPart.cons (o := { dst := some 63, op := Op.call { callee := Callee.value (Operand.func 33), args := #[Operand.tmp 53, Operand.tmp 61, Operand.tmp 62], argTypes := #[55, 55, 3] }, type := 55, pos := "ref.go:362", after := #[{ on := 11, ground := Ground.data }, { on := 19, ground := Ground.data }, { on := 20, ground := Ground.data }], guard := none }) rfl (by kernel_rfl) (fun K hK => ?_) AllPart.nil
      go_simp
      go_at_call 33
      refine HBO.out.mono ?_
      rintro e u6 ⟨nv, rfl, hb6, hm6⟩
      have hS1 := rk5_cells (hm6.blk HT9.out (fun x => x)) (hm6.blk HK9.out (fun x => x)) HKV.out (cell_none HV9.out hm6)
      obtain ⟨A7, n7, k7, rfl⟩ := hb6.form
      have HB6 := Lib.hid hb6
      have HM6 := Lib.hid hm6
      clear hb6 hm6
      refine hK.out _ _ ?_ (fun hHeld => ?_)
      · exact hS1
      clear hK K
      try simp only [Act.put, List.setIfInBounds_toArray, List.set_cons_zero, List.set_cons_succ]
      clear hS1
      refine wpPart_take (i := 22) (oi := { dst := some 64, op := Op.indexAddr 59 (Operand.tmp 45) (Operand.tmp 46), type := 0, pos := "ref.go:362", after := #[{ on := 3, ground := Ground.data }, { on := 4, ground := Ground.data }, { on := 0, ground := Ground.phase }, { on := 1, ground := Ground.phase }, { on := 2, ground := Ground.phase }, { on := 3, ground := Ground.phase }, { on := 4, ground := Ground.phase }, { on := 5, ground := Ground.phase }, { on := 6, ground := Ground.phase }, { on := 7, ground := Ground.phase }, { on := 8, ground := Ground.phase }, { on := 9, ground := Ground.phase }, { on := 10, ground := Ground.phase }, { on := 11, ground := Ground.phase }, { on := 12, ground := Ground.phase }, { on := 13, ground := Ground.phase }, { on := 14, ground := Ground.phase }, { on := 15, ground := Ground.phase }, { on := 16, ground := Ground.phase }, { on := 17, ground := Ground.phase }, { on := 18, ground := Ground.phase }, { on := 19, ground := Ground.phase }, { on := 20, ground := Ground.phase }, { on := 21, ground := Ground.phase }], guard := none }) (v := ?_) rfl (by kernel_rfl) (by kernel_rfl) (by kernel_rfl) (by kernel_rfl) (by kernel_rfl) (fun _ _ _ h => h) (Or.inl ⟨by rfl, ?_⟩) (by assumption) ?_
      rotate_left
      · intro w hSw; (try dsimp only at hSw); go_simp <;> with_reducible rfl
      try simp only [Act.put, List.setIfInBounds_toArray, List.set_cons_zero, List.set_cons_succ]
      refine wpPart_ready (rs := [23]) (by kernel_rfl) (by simp) ?_
      refine AllPart.last (o := { dst := none, op := Op.store 55 (Operand.tmp 64) (Operand.tmp 63), type := 0, pos := "ref.go:362", after := #[{ on := 22, ground := Ground.data }, { on := 21, ground := Ground.data }, { on := 21, ground := Ground.chain }, { on := 0, ground := Ground.phase }, { on := 1, ground := Ground.phase }, { on := 2, ground := Ground.phase }, { on := 3, ground := Ground.phase }, { on := 4, ground := Ground.phase }, { on := 5, ground := Ground.phase }, { on := 6, ground := Ground.phase }, { on := 7, ground := Ground.phase }, { on := 8, ground := Ground.phase }, { on := 9, ground := Ground.phase }, { on := 10, ground := Ground.phase }, { on := 11, ground := Ground.phase }, { on := 12, ground := Ground.phase }, { on := 13, ground := Ground.phase }, { on := 14, ground := Ground.phase }, { on := 15, ground := Ground.phase }, { on := 16, ground := Ground.phase }, { on := 17, ground := Ground.phase }, { on := 18, ground := Ground.phase }, { on := 19, ground := Ground.phase }, { on := 20, ground := Ground.phase }, { on := 21, ground := Ground.phase }], guard := none }) rfl (by kernel_rfl) (fun K hK => ?_) AllPart.nil
      have hc := hHeld.2.1
      have hf := hHeld.2.2.1
      go_simp
      refine hK.out _ _ ?_
      clear hK K
      try simp only [Act.put, List.setIfInBounds_toArray, List.set_cons_zero, List.set_cons_succ]
      clear hc hf
      refine wpPart_done (by kernel_rfl) ?_ _
      have HE : Hid (RTook w R ⟨rows, .slice (some ⟨b, o, none⟩) s.all.length c, kR, tR, kv, gv⟩ (s.took m k p tv) (u6.setCell ⟨kR, p, none⟩ (.slice A7 n7 k7))) := by
        have hm6 := HD4.out.trans HM6.out
        have hk := (HR4.out.same hm6).know (p := p) HB6.out
        refine ⟨_, hk.conv rfl rfl rfl rfl, ?_, fun b hb => ?_⟩
        · exact ((HM4.out.mono (fun i _ x => .inr (.inr (.inr x)))).trans' hm6 (fun _ _ x => x.elim)).set (p := ⟨kR, p, none⟩) (fun _ => .inr (.inr (.inl rfl))) _
        · rcases hb with rfl | hb | rfl | rfl
          · exact .inl rfl
          · exact .inr (.inl hb)
          · exact .inr (.inr (.inl rfl))
          · exact .inr (.inr (.inr rfl))
      clear HBO HT9 HK9 HV9 HB6 HM6 HD4 HR4 HM4
      go_wp2
      go_ret
      exact ⟨rfl, HE.out⟩
    refine AllPart.cons (o := { dst := some 39, op := Op.buildSlice 44 1 #[(0, Operand.tmp 38)], type := 44, pos := "ref.go:361", after := #[{ on := 14, ground := Ground.data }], guard := none }) rfl (by kernel_rfl) (fun K hK => ?_) ?_
    · skip
      go_simp
      refine hK.out _ _ ?_ (fun hHeld => ?_)
      · exact rt_cells ((HM.out.alloc _).blk HT0.out (fun x => x)) ((HM.out.alloc _).blk HK0.out (fun x => x)) HTV.out
      clear hK K
      try simp only [Act.put, List.setIfInBounds_toArray, List.set_cons_zero, List.set_cons_succ]
      have HB1 := Lib.hid (blk_new v5 (Obj.cells #[.int .i64 (k : Int)] 3))
      have HX : Hid (v5.heap.size ≠ u0.heap.size) := (Nat.ne_of_lt (RowOf.lt HE1.out rfl)).symm
      have HE1 := Lib.hid (HE1.out.alloc (Obj.cells #[.int .i64 (k : Int)] 3))
      have HM := Lib.hid (HM.out.alloc (Obj.cells #[.int .i64 (k : Int)] 3))
      generalize v5.alloc (Obj.cells #[.int .i64 (k : Int)] 3) = v15 at *
      refine wpPart_ready (rs := [13]) (by kernel_rfl) (by simp) ?_
      refine AllPart.cons (o := { dst := some 37, op := Op.call { callee := Callee.builtin Builtin.append, args := #[Operand.tmp 29, Operand.tmp 36], argTypes := #[44, 44] }, type := 44, pos := "ref.go:361", after := #[{ on := 5, ground := Ground.data }, { on := 12, ground := Ground.data }], guard := none }) rfl (by kernel_rfl) (fun K hK => ?_) AllPart.nil
      refine step_append_row (by rfl) _ _ 44 (by rfl) i0 (.int .i64 0) 8 Try.underlying44 hii hz0 hz1 hz2 (by rfl) (by omega) (by rfl) HE1.out (by simp) _ gl ((s.got p).map fun (k : Nat) => Value.int .i64 (k : Int)) (by rfl) (RowOf.src (HG0.out.mod HM.out (fun _ _ x => x)) (int_one _)) (by have := HGL.out; unfold maxLen; omega) (by have := HGL.out; omega) ?_
      intro g2 v13 hrow hgrow hat
      have HM0 := HM
      have HM := Lib.hid (HM.out.grown hgrow (fun q hq => by cases hq; exact HN5.out))
      have hS1 := rt_cells (HM.out.blk HT0.out (fun x => x)) (HM.out.blk HK0.out (fun x => x)) HTV.out
      refine hK.out _ _ ?_ (fun hHeld => ?_)
      · exact hS1
      clear hK K
      try simp only [Act.put, List.setIfInBounds_toArray, List.set_cons_zero, List.set_cons_succ]
      clear hS1
      have HGO : Hid (∀ q, g2.ownBlock = some q → w.heap.size ≤ q) := fun q hq => by
        rcases hat with e | e
        · rw [e] at hq; cases hq; exact HN5.out
        · rw [e] at hq; cases hq; exact HM0.out.size
      have hG1 : RowOf v13 3 1 g2 gl ((s.got p).map fun (k : Nat) => Value.int .i64 (k : Int)) := by simpa using hrow
      have HG1 := Lib.hid hG1
      clear hG1
      have HB1 := Lib.hid (blk_grown HB1.out hgrow (fun q hq => by cases hq; exact HX.out))
      obtain ⟨A5, k5, hf5⟩ := HG1.out.form
      obtain rfl : g2 = _ := hf5
      clear hrow hgrow hat HM0
      refine wpPart_ready (rs := [16]) (by kernel_rfl) (by simp) ?_
      refine AllPart.cons (o := { dst := some 40, op := Op.call { callee := Callee.builtin Builtin.append, args := #[Operand.tmp 37, Operand.tmp 39], argTypes := #[44, 44] }, type := 44, pos := "ref.go:361", after := #[{ on := 13, ground := Ground.data }, { on := 15, ground := Ground.data }, { on := 13, ground := Ground.chain }], guard := none }) rfl (by kernel_rfl) (fun K hK => ?_) AllPart.nil
      refine step_append_row (by rfl) _ _ 44 (by rfl) i0 (.int .i64 0) 8 Try.underlying44 hii hz0 hz1 hz2 (by rfl) (by omega) (by rfl) HG1.out (int_one _) _ 1 [.int .i64 (k : Int)] (by rfl) (SrcOk.block HB1.out rfl (fun j u hu => by rw [Nat.zero_add]; simpa using hu) (by simp [Value.oneCell'])) (by have := HGL.out; unfold maxLen; omega) (by have := HGL.out; omega) ?_
      intro g3 v16 hrow3 hgrow3 hat3
      have HM := Lib.hid (HM.out.grown hgrow3 HGO.out)
      have hS1 := rt_cells (HM.out.blk HT0.out (fun x => x)) (HM.out.blk HK0.out (fun x => x)) HTV.out
      have HG3 := Lib.hid hrow3
      obtain ⟨A6, k6, hf6⟩ := hrow3.form
      obtain rfl : g3 = _ := hf6
      clear hrow3 hgrow3 hat3
      refine hK.out _ _ ?_ (fun hHeld => ?_)
      · exact hS1
      clear hK K
      try simp only [Act.put, List.setIfInBounds_toArray, List.set_cons_zero, List.set_cons_succ]
      clear hS1
      refine wpPart_take (i := 17) (oi := { dst := some 41, op := Op.indexAddr 60 (Operand.tmp 27) (Operand.tmp 28), type := 0, pos := "ref.go:361", after := #[{ on := 3, ground := Ground.data }, { on := 4, ground := Ground.data }, { on := 0, ground := Ground.phase }, { on := 1, ground := Ground.phase }, { on := 2, ground := Ground.phase }, { on := 3, ground := Ground.phase }, { on := 4, ground := Ground.phase }, { on := 5, ground := Ground.phase }, { on := 6, ground := Ground.phase }, { on := 7, ground := Ground.phase }, { on := 8, ground := Ground.phase }, { on := 9, ground := Ground.phase }, { on := 10, ground := Ground.phase }, { on := 11, ground := Ground.phase }, { on := 12, ground := Ground.phase }, { on := 13, ground := Ground.phase }, { on := 14, ground := Ground.phase }, { on := 15, ground := Ground.phase }, { on := 16, ground := Ground.phase }], guard := none }) (v := ?_) rfl (by kernel_rfl) (by kernel_rfl) (by kernel_rfl) (by kernel_rfl) (by kernel_rfl) (fun _ _ _ h => h) (Or.inl ⟨by rfl, ?_⟩) (by assumption) ?_
      rotate_left
      · intro w hSw; (try dsimp only at hSw); go_simp <;> with_reducible rfl
      try simp only [Act.put, List.setIfInBounds_toArray, List.set_cons_zero, List.set_cons_succ]
      refine wpPart_ready (rs := [18]) (by kernel_rfl) (by simp) ?_
      refine AllPart.last (o := { dst := none, op := Op.store 44 (Operand.tmp 41) (Operand.tmp 40), type := 0, pos := "ref.go:361", after := #[{ on := 17, ground := Ground.data }, { on := 16, ground := Ground.data }, { on := 16, ground := Ground.chain }, { on := 0, ground := Ground.phase }, { on := 1, ground := Ground.phase }, { on := 2, ground := Ground.phase }, { on := 3, ground := Ground.phase }, { on := 4, ground := Ground.phase }, { on := 5, ground := Ground.phase }, { on := 6, ground := Ground.phase }, { on := 7, ground := Ground.phase }, { on := 8, ground := Ground.phase }, { on := 9, ground := Ground.phase }, { on := 10, ground := Ground.phase }, { on := 11, ground := Ground.phase }, { on := 12, ground := Ground.phase }, { on := 13, ground := Ground.phase }, { on := 14, ground := Ground.phase }, { on := 15, ground := Ground.phase }, { on := 16, ground := Ground.phase }], guard := none }) rfl (by kernel_rfl) (fun K hK => ?_) AllPart.nil
      have hc := hHeld.2.1
      have hf := hHeld.2.2
      go_simp
      refine hK.out _ _ ?_
      clear hK K
      try simp only [Act.put, List.setIfInBounds_toArray, List.set_cons_zero, List.set_cons_succ]
      clear hc hf
      refine wpPart_done (by kernel_rfl) ?_ _
      have hR3 := (HR.out.same HM.out).gots (p := p) (v := .slice A6 (gl + 1) k6) (G := s.got p ++ [k]) (by rw [List.length_append, ← HGE.out]; simpa using HG3.out)
      have HR4 := Lib.hid hR3
      have HM4 : Hid (Mod (fun b => b = tR) w (v16.setCell ⟨tR, p, none⟩ (.slice A6 (gl + 1) k6))) := (HM.out.mono (fun _ _ x => x.elim)).trans (mod_one _ _ _ _)
      clear hR3 HM HG3 HGO HG1 HB1 HE1 HN5 HT0 HK0
      generalize v16.setCell ⟨tR, p, none⟩ (.slice A6 (gl + 1) k6) = w4 at *
      have HT9 : Hid (w4.drew.heap[R]? = some (.cells #[.int .i64 (s.n : Int), .slice (some ⟨b, o, none⟩) s.all.length c, .slice (some ⟨kR, 0, none⟩) s.n s.n, .slice (some ⟨tR, 0, none⟩) s.n s.n] 62 (0, 0))) := HR4.out.top
      have HK9 : Hid (w4.drew.heap[kR]? = some (.cells ((List.range s.n).map kv).toArray 55 (0, 0))) := HR4.out.kn
      have HV9 : Hid (w4.drew.cell? ⟨b, o + k * 4 + 3, none⟩ = some va) := by
        obtain ⟨b', o', cap', v', e', -, -, -, q3, -⟩ := HR4.out.elem (k := k) (m := m) HK.out
        have e' : Value.slice (some ⟨b, o, none⟩) s.all.length c = .slice (some ⟨b', o', none⟩) s.all.length cap' := e'
        cases e'
        exact cell_tr (S := fun b => b = tR) HVA.out HM4.out.drew HVB.out
      have HBO : Hid (Calls Try.prog 33 #[.slice A3 l3 c3, va, .int .i64 (k : Int)] w4.drew fun e w' => ∃ v, e = .returned v ∧ Bits w' v (fun j => (s.knows p j || m.ahead j) || j == k) ∧ Mod (fun _ => False) w4.drew w') := by
        rw [← HKV0.out]
        exact rboth_any _ _ (s.knows p) m.ahead k w4.drew ((HR4.out.ks p hp).quiet (Mod.refl _ _).drew) ((HBA.out.mod HM4.out (fun q hq e => HBT.out q hq e)).quiet (Mod.refl _ _).drew) HK1.out
      have HD4 : Hid (Mod (fun _ => False) w4 w4.drew) := (Mod.refl _ _).drew
      go_wp2_with fail
      refine wp_region_part (S := fun w' => w'.cell? ⟨R, 2, none⟩ = some (.slice (some ⟨kR, 0, none⟩) s.n s.n) ∧ w'.cell? ⟨kR, p, none⟩ = some (.slice A3 l3 c3) ∧ w'.frozen? ⟨kR, p, none⟩ = false ∧ w'.cell? ⟨R, 1, none⟩ = some (.slice (some ⟨b, o, none⟩) s.all.length c) ∧ w'.cell? ⟨b, o + k * 4 + 3, none⟩ = some va) [23] (by kernel_rfl) ?_ (fun hHeld => ?_)
      · exact rk5_cells (W := w4.drew) HT9.out HK9.out HKV.out HV9.out
      generalize w4.drew = u4 at *
      refine wpPart_take (i := 0) (oi := { dst := some 42, op := Op.move (Operand.tmp 0), type := 50, pos := "ref.go:362", after := #[], guard := none }) (v := ?_) rfl (by kernel_rfl) (by kernel_rfl) (by kernel_rfl) (by kernel_rfl) (by kernel_rfl) (fun _ _ _ h => h) (Or.inl ⟨by rfl, ?_⟩) (by assumption) ?_
      rotate_left
      · intro w hSw; (try dsimp only at hSw); go_simp <;> with_reducible rfl
      try simp only [Act.put, List.setIfInBounds_toArray, List.set_cons_zero, List.set_cons_succ]
      refine wpPart_take (i := 1) (oi := { dst := some 43, op := Op.nilCheck (Operand.tmp 42), type := 0, pos := "ref.go:362", after := #[{ on := 0, ground := Ground.data }], guard := none }) (v := ?_) rfl (by kernel_rfl) (by kernel_rfl) (by kernel_rfl) (by kernel_rfl) (by kernel_rfl) (fun _ _ _ h => h) (Or.inl ⟨by rfl, ?_⟩) (by assumption) ?_
      rotate_left
      · intro w hSw; (try dsimp only at hSw); go_simp <;> with_reducible rfl
      try simp only [Act.put, List.setIfInBounds_toArray, List.set_cons_zero, List.set_cons_succ]
      refine wpPart_take (i := 2) (oi := { dst := some 44, op := Op.fieldAddr 62 (Operand.tmp 43) 2, type := 0, pos := "ref.go:362", after := #[{ on := 1, ground := Ground.data }], guard := none }) (v := ?_) rfl (by kernel_rfl) (by kernel_rfl) (by kernel_rfl) (by kernel_rfl) (by kernel_rfl) (fun _ _ _ h => h) (Or.inl ⟨by rfl, ?_⟩) (by assumption) ?_
      rotate_left
      · intro w hSw; (try dsimp only at hSw); go_simp <;> with_reducible rfl
      try simp only [Act.put, List.setIfInBounds_toArray, List.set_cons_zero, List.set_cons_succ]
      refine wpPart_take (i := 3) (oi := { dst := some 45, op := Op.load 59 (Operand.tmp 44), type := 59, pos := "ref.go:362", after := #[{ on := 2, ground := Ground.data }], guard := none }) (v := ?_) rfl (by kernel_rfl) (by kernel_rfl) (by kernel_rfl) (by kernel_rfl) (by kernel_rfl) (fun _ _ _ h => h) (Or.inl ⟨by rfl, ?_⟩) (by assumption) ?_
      rotate_left
      · intro w hSw; (try dsimp only at hSw); go_simp <;> with_reducible rfl
      try simp only [Act.put, List.setIfInBounds_toArray, List.set_cons_zero, List.set_cons_succ]
      refine wpPart_take (i := 4) (oi := { dst := some 46, op := Op.move (Operand.tmp 1), type := 3, pos := "ref.go:362", after := #[], guard := none }) (v := ?_) rfl (by kernel_rfl) (by kernel_rfl) (by kernel_rfl) (by kernel_rfl) (by kernel_rfl) (fun _ _ _ h => h) (Or.inl ⟨by rfl, ?_⟩) (by assumption) ?_
      rotate_left
      · intro w hSw; (try dsimp only at hSw); go_simp <;> with_reducible rfl
      try simp only [Act.put, List.setIfInBounds_toArray, List.set_cons_zero, List.set_cons_succ]
      refine wpPart_take (i := 5) (oi := { dst := some 47, op := Op.move (Operand.tmp 0), type := 50, pos := "ref.go:362", after := #[], guard := none }) (v := ?_) rfl (by kernel_rfl) (by kernel_rfl) (by kernel_rfl) (by kernel_rfl) (by kernel_rfl) (fun _ _ _ h => h) (Or.inl ⟨by rfl, ?_⟩) (by assumption) ?_
      rotate_left
      · intro w hSw; (try dsimp only at hSw); go_simp <;> with_reducible rfl
      try simp only [Act.put, List.setIfInBounds_toArray, List.set_cons_zero, List.set_cons_succ]
      refine wpPart_take (i := 6) (oi := { dst := some 48, op := Op.nilCheck (Operand.tmp 47), type := 0, pos := "ref.go:362", after := #[{ on := 5, ground := Ground.data }], guard := none }) (v := ?_) rfl (by kernel_rfl) (by kernel_rfl) (by kernel_rfl) (by kernel_rfl) (by kernel_rfl) (fun _ _ _ h => h) (Or.inl ⟨by rfl, ?_⟩) (by assumption) ?_
      rotate_left
      · intro w hSw; (try dsimp only at hSw); go_simp <;> with_reducible rfl
      try simp only [Act.put, List.setIfInBounds_toArray, List.set_cons_zero, List.set_cons_succ]
      refine wpPart_take (i := 7) (oi := { dst := some 49, op := Op.fieldAddr 62 (Operand.tmp 48) 2, type := 0, pos := "ref.go:362", after := #[{ on := 6, ground := Ground.data }], guard := none }) (v := ?_) rfl (by kernel_rfl) (by kernel_rfl) (by kernel_rfl) (by kernel_rfl) (by kernel_rfl) (fun _ _ _ h => h) (Or.inl ⟨by rfl, ?_⟩) (by assumption) ?_
      rotate_left
      · intro w hSw; (try dsimp only at hSw); go_simp <;> with_reducible rfl
      try simp only [Act.put, List.setIfInBounds_toArray, List.set_cons_zero, List.set_cons_succ]
      refine wpPart_take (i := 8) (oi := { dst := some 50, op := Op.load 59 (Operand.tmp 49), type := 59, pos := "ref.go:362", after := #[{ on := 7, ground := Ground.data }], guard := none }) (v := ?_) rfl (by kernel_rfl) (by kernel_rfl) (by kernel_rfl) (by kernel_rfl) (by kernel_rfl) (fun _ _ _ h => h) (Or.inl ⟨by rfl, ?_⟩) (by assumption) ?_
      rotate_left
      · intro w hSw; (try dsimp only at hSw); go_simp <;> with_reducible rfl
      try simp only [Act.put, List.setIfInBounds_toArray, List.set_cons_zero, List.set_cons_succ]
      refine wpPart_take (i := 9) (oi := { dst := some 51, op := Op.move (Operand.tmp 1), type := 3, pos := "ref.go:362", after := #[], guard := none }) (v := ?_) rfl (by kernel_rfl) (by kernel_rfl) (by kernel_rfl) (by kernel_rfl) (by kernel_rfl) (fun _ _ _ h => h) (Or.inl ⟨by rfl, ?_⟩) (by assumption) ?_
      rotate_left
      · intro w hSw; (try dsimp only at hSw); go_simp <;> with_reducible rfl
      try simp only [Act.put, List.setIfInBounds_toArray, List.set_cons_zero, List.set_cons_succ]
      refine wpPart_take (i := 10) (oi := { dst := some 52, op := Op.indexAddr 59 (Operand.tmp 50) (Operand.tmp 51), type := 0, pos := "ref.go:362", after := #[{ on := 8, ground := Ground.data }, { on := 9, ground := Ground.data }], guard := none }) (v := ?_) rfl (by kernel_rfl) (by kernel_rfl) (by kernel_rfl) (by kernel_rfl) (by kernel_rfl) (fun _ _ _ h => h) (Or.inl ⟨by rfl, ?_⟩) (by assumption) ?_
      rotate_left
      · intro w hSw; (try dsimp only at hSw); go_simp <;> with_reducible rfl
      try simp only [Act.put, List.setIfInBounds_toArray, List.set_cons_zero, List.set_cons_succ]
      refine wpPart_take (i := 11) (oi := { dst := some 53, op := Op.load 55 (Operand.tmp 52), type := 55, pos := "ref.go:362", after := #[{ on := 10, ground := Ground.data }], guard := none }) (v := ?_) rfl (by kernel_rfl) (by kernel_rfl) (by kernel_rfl) (by kernel_rfl) (by kernel_rfl) (fun _ _ _ h => h) (Or.inl ⟨by rfl, ?_⟩) (by assumption) ?_
      rotate_left
      · intro w hSw; (try dsimp only at hSw); go_simp <;> with_reducible rfl
      try simp only [Act.put, List.setIfInBounds_toArray, List.set_cons_zero, List.set_cons_succ]
      refine wpPart_take (i := 12) (oi := { dst := some 54, op := Op.move (Operand.tmp 0), type := 50, pos := "ref.go:362", after := #[], guard := none }) (v := ?_) rfl (by kernel_rfl) (by kernel_rfl) (by kernel_rfl) (by kernel_rfl) (by kernel_rfl) (fun _ _ _ h => h) (Or.inl ⟨by rfl, ?_⟩) (by assumption) ?_
      rotate_left
      · intro w hSw; (try dsimp only at hSw); go_simp <;> with_reducible rfl
      try simp only [Act.put, List.setIfInBounds_toArray, List.set_cons_zero, List.set_cons_succ]
      refine wpPart_take (i := 13) (oi := { dst := some 55, op := Op.nilCheck (Operand.tmp 54), type := 0, pos := "ref.go:362", after := #[{ on := 12, ground := Ground.data }], guard := none }) (v := ?_) rfl (by kernel_rfl) (by kernel_rfl) (by kernel_rfl) (by kernel_rfl) (by kernel_rfl) (fun _ _ _ h => h) (Or.inl ⟨by rfl, ?_⟩) (by assumption) ?_
      rotate_left
      · intro w hSw; (try dsimp only at hSw); go_simp <;> with_reducible rfl
      try simp only [Act.put, List.setIfInBounds_toArray, List.set_cons_zero, List.set_cons_succ]
      refine wpPart_take (i := 14) (oi := { dst := some 56, op := Op.fieldAddr 62 (Operand.tmp 55) 1, type := 0, pos := "ref.go:362", after := #[{ on := 13, ground := Ground.data }], guard := none }) (v := ?_) rfl (by kernel_rfl) (by kernel_rfl) (by kernel_rfl) (by kernel_rfl) (by kernel_rfl) (fun _ _ _ h => h) (Or.inl ⟨by rfl, ?_⟩) (by assumption) ?_
      rotate_left
      · intro w hSw; (try dsimp only at hSw); go_simp <;> with_reducible rfl
      try simp only [Act.put, List.setIfInBounds_toArray, List.set_cons_zero, List.set_cons_succ]
      refine wpPart_take (i := 15) (oi := { dst := some 57, op := Op.load 58 (Operand.tmp 56), type := 58, pos := "ref.go:362", after := #[{ on := 14, ground := Ground.data }], guard := none }) (v := ?_) rfl (by kernel_rfl) (by kernel_rfl) (by kernel_rfl) (by kernel_rfl) (by kernel_rfl) (fun _ _ _ h => h) (Or.inl ⟨by rfl, ?_⟩) (by assumption) ?_
      rotate_left
      · intro w hSw; (try dsimp only at hSw); go_simp <;> with_reducible rfl
      try simp only [Act.put, List.setIfInBounds_toArray, List.set_cons_zero, List.set_cons_succ]
      refine wpPart_take (i := 16) (oi := { dst := some 58, op := Op.move (Operand.tmp 2), type := 3, pos := "ref.go:362", after := #[], guard := none }) (v := ?_) rfl (by kernel_rfl) (by kernel_rfl) (by kernel_rfl) (by kernel_rfl) (by kernel_rfl) (fun _ _ _ h => h) (Or.inl ⟨by rfl, ?_⟩) (by assumption) ?_
      rotate_left
      · intro w hSw; (try dsimp only at hSw); go_simp <;> with_reducible rfl
      try simp only [Act.put, List.setIfInBounds_toArray, List.set_cons_zero, List.set_cons_succ]
      refine wpPart_take (i := 17) (oi := { dst := some 59, op := Op.indexAddr 58 (Operand.tmp 57) (Operand.tmp 58), type := 0, pos := "ref.go:362", after := #[{ on := 15, ground := Ground.data }, { on := 16, ground := Ground.data }], guard := none }) (v := ?_) rfl (by kernel_rfl) (by kernel_rfl) (by kernel_rfl) (by kernel_rfl) (by kernel_rfl) (fun _ _ _ h => h) (Or.inl ⟨by rfl, ?_⟩) (by assumption) ?_
      rotate_left
      · intro w hSw; (try dsimp only at hSw); go_simp <;> with_reducible rfl
      try simp only [Act.put, List.setIfInBounds_toArray, List.set_cons_zero, List.set_cons_succ]
      refine wpPart_take (i := 18) (oi := { dst := some 60, op := Op.fieldAddr 57 (Operand.tmp 59) 3, type := 0, pos := "ref.go:362", after := #[{ on := 17, ground := Ground.data }], guard := none }) (v := ?_) rfl (by kernel_rfl) (by kernel_rfl) (by kernel_rfl) (by kernel_rfl) (by kernel_rfl) (fun _ _ _ h => h) (Or.inl ⟨by rfl, ?_⟩) (by assumption) ?_
      rotate_left
      · intro w hSw; (try dsimp only at hSw); go_simp <;> with_reducible rfl
      try simp only [Act.put, List.setIfInBounds_toArray, List.set_cons_zero, List.set_cons_succ]
      refine wpPart_take (i := 19) (oi := { dst := some 61, op := Op.load 55 (Operand.tmp 60), type := 55, pos := "ref.go:362", after := #[{ on := 18, ground := Ground.data }], guard := none }) (v := ?_) rfl (by kernel_rfl) (by kernel_rfl) (by kernel_rfl) (by kernel_rfl) (by kernel_rfl) (fun _ _ _ h => h) (Or.inl ⟨by rfl, ?_⟩) (by assumption) ?_
      rotate_left
      · intro w hSw; (try dsimp only at hSw); go_simp <;> with_reducible rfl
      try simp only [Act.put, List.setIfInBounds_toArray, List.set_cons_zero, List.set_cons_succ]
      refine wpPart_take (i := 20) (oi := { dst := some 62, op := Op.move (Operand.tmp 2), type := 3, pos := "ref.go:362", after := #[], guard := none }) (v := ?_) rfl (by kernel_rfl) (by kernel_rfl) (by kernel_rfl) (by kernel_rfl) (by kernel_rfl) (fun _ _ _ h => h) (Or.inl ⟨by rfl, ?_⟩) (by assumption) ?_
      rotate_left
      · intro w hSw; (try dsimp only at hSw); go_simp <;> with_reducible rfl
      try simp only [Act.put, List.setIfInBounds_toArray, List.set_cons_zero, List.set_cons_succ]
      refine wpPart_ready (rs := [21]) (by kernel_rfl) (by simp) ?_
      refine AllPart.cons (o := { dst := some 63, op := Op.call { callee := Callee.value (Operand.func 33), args := #[Operand.tmp 53, Operand.tmp 61, Operand.tmp 62], argTypes := #[55, 55, 3] }, type := 55, pos := "ref.go:362", after := #[{ on := 11, ground := Ground.data }, { on := 19, ground := Ground.data }, { on := 20, ground := Ground.data }], guard := none }) rfl (by kernel_rfl) (fun K hK => ?_) AllPart.nil
      go_simp
      go_at_call 33
      refine HBO.out.mono ?_
      rintro e u6 ⟨nv, rfl, hb6, hm6⟩
      have hS1 := rk5_cells (hm6.blk HT9.out (fun x => x)) (hm6.blk HK9.out (fun x => x)) HKV.out (cell_none HV9.out hm6)
      obtain ⟨A7, n7, k7, rfl⟩ := hb6.form
      have HB6 := Lib.hid hb6
      have HM6 := Lib.hid hm6
      clear hb6 hm6
      refine hK.out _ _ ?_ (fun hHeld => ?_)
      · exact hS1
      clear hK K
      try simp only [Act.put, List.setIfInBounds_toArray, List.set_cons_zero, List.set_cons_succ]
      clear hS1
      refine wpPart_take (i := 22) (oi := { dst := some 64, op := Op.indexAddr 59 (Operand.tmp 45) (Operand.tmp 46), type := 0, pos := "ref.go:362", after := #[{ on := 3, ground := Ground.data }, { on := 4, ground := Ground.data }, { on := 0, ground := Ground.phase }, { on := 1, ground := Ground.phase }, { on := 2, ground := Ground.phase }, { on := 3, ground := Ground.phase }, { on := 4, ground := Ground.phase }, { on := 5, ground := Ground.phase }, { on := 6, ground := Ground.phase }, { on := 7, ground := Ground.phase }, { on := 8, ground := Ground.phase }, { on := 9, ground := Ground.phase }, { on := 10, ground := Ground.phase }, { on := 11, ground := Ground.phase }, { on := 12, ground := Ground.phase }, { on := 13, ground := Ground.phase }, { on := 14, ground := Ground.phase }, { on := 15, ground := Ground.phase }, { on := 16, ground := Ground.phase }, { on := 17, ground := Ground.phase }, { on := 18, ground := Ground.phase }, { on := 19, ground := Ground.phase }, { on := 20, ground := Ground.phase }, { on := 21, ground := Ground.phase }], guard := none }) (v := ?_) rfl (by kernel_rfl) (by kernel_rfl) (by kernel_rfl) (by kernel_rfl) (by kernel_rfl) (fun _ _ _ h => h) (Or.inl ⟨by rfl, ?_⟩) (by assumption) ?_
      rotate_left
      · intro w hSw; (try dsimp only at hSw); go_simp <;> with_reducible rfl
      try simp only [Act.put, List.setIfInBounds_toArray, List.set_cons_zero, List.set_cons_succ]
      refine wpPart_ready (rs := [23]) (by kernel_rfl) (by simp) ?_
      refine AllPart.last (o := { dst := none, op := Op.store 55 (Operand.tmp 64) (Operand.tmp 63), type := 0, pos := "ref.go:362", after := #[{ on := 22, ground := Ground.data }, { on := 21, ground := Ground.data }, { on := 21, ground := Ground.chain }, { on := 0, ground := Ground.phase }, { on := 1, ground := Ground.phase }, { on := 2, ground := Ground.phase }, { on := 3, ground := Ground.phase }, { on := 4, ground := Ground.phase }, { on := 5, ground := Ground.phase }, { on := 6, ground := Ground.phase }, { on := 7, ground := Ground.phase }, { on := 8, ground := Ground.phase }, { on := 9, ground := Ground.phase }, { on := 10, ground := Ground.phase }, { on := 11, ground := Ground.phase }, { on := 12, ground := Ground.phase }, { on := 13, ground := Ground.phase }, { on := 14, ground := Ground.phase }, { on := 15, ground := Ground.phase }, { on := 16, ground := Ground.phase }, { on := 17, ground := Ground.phase }, { on := 18, ground := Ground.phase }, { on := 19, ground := Ground.phase }, { on := 20, ground := Ground.phase }, { on := 21, ground := Ground.phase }], guard := none }) rfl (by kernel_rfl) (fun K hK => ?_) AllPart.nil
      have hc := hHeld.2.1
      have hf := hHeld.2.2.1
      go_simp
      refine hK.out _ _ ?_
      clear hK K
      try simp only [Act.put, List.setIfInBounds_toArray, List.set_cons_zero, List.set_cons_succ]
      clear hc hf
      refine wpPart_done (by kernel_rfl) ?_ _
      have HE : Hid (RTook w R ⟨rows, .slice (some ⟨b, o, none⟩) s.all.length c, kR, tR, kv, gv⟩ (s.took m k p tv) (u6.setCell ⟨kR, p, none⟩ (.slice A7 n7 k7))) := by
        have hm6 := HD4.out.trans HM6.out
        have hk := (HR4.out.same hm6).know (p := p) HB6.out
        refine ⟨_, hk.conv rfl rfl rfl rfl, ?_, fun b hb => ?_⟩
        · exact ((HM4.out.mono (fun i _ x => .inr (.inr (.inr x)))).trans' hm6 (fun _ _ x => x.elim)).set (p := ⟨kR, p, none⟩) (fun _ => .inr (.inr (.inl rfl))) _
        · rcases hb with rfl | hb | rfl | rfl
          · exact .inl rfl
          · exact .inr (.inl hb)
          · exact .inr (.inr (.inl rfl))
          · exact .inr (.inr (.inr rfl))
      clear HBO HT9 HK9 HV9 HB6 HM6 HD4 HR4 HM4
      go_wp2
      go_ret
      exact ⟨rfl, HE.out⟩
    exact AllPart.nil
  refine AllPart.cons (o := { dst := some 39, op := Op.buildSlice 44 1 #[(0, Operand.tmp 38)], type := 44, pos := "ref.go:361", after := #[{ on := 14, ground := Ground.data }], guard := none }) rfl (by kernel_rfl) (fun K hK => ?_) ?_
  · skip
    go_simp
    refine hK.out _ _ ?_ (fun hHeld => ?_)
    · exact rt_cells ((HM.out.alloc _).blk HT0.out (fun x => x)) ((HM.out.alloc _).blk HK0.out (fun x => x)) HTV.out
    clear hK K
    try simp only [Act.put, List.setIfInBounds_toArray, List.set_cons_zero, List.set_cons_succ]
    have HB1 := Lib.hid (blk_new u0 (Obj.cells #[.int .i64 (k : Int)] 3))
    have HM := Lib.hid (HM.out.alloc (Obj.cells #[.int .i64 (k : Int)] 3))
    generalize u0.alloc (Obj.cells #[.int .i64 (k : Int)] 3) = v15 at *
    refine wpPart_ready (rs := [5]) (by kernel_rfl) (by simp) ?_
    refine AllPart.cons (o := { dst := some 29, op := Op.buildSlice 44 0 #[], type := 44, pos := "ref.go:361", after := #[], guard := none }) rfl (by kernel_rfl) (fun K hK => ?_) AllPart.nil
    go_simp
    refine hK.out _ _ ?_ (fun hHeld => ?_)
    · exact rt_cells ((HM.out.alloc _).blk HT0.out (fun x => x)) ((HM.out.alloc _).blk HK0.out (fun x => x)) HTV.out
    clear hK K
    try simp only [Act.put, List.setIfInBounds_toArray, List.set_cons_zero, List.set_cons_succ]
    have HN5 : Hid (w.heap.size ≤ v15.heap.size) := HM.out.size
    have HE1 : Hid (RowOf (v15.alloc (Obj.cells #[] 3)) 3 1 (.slice (some ⟨v15.heap.size, 0, none⟩) 0 0) 0 []) := RowOf.new v15 #[] 3 1 0 rfl (Nat.zero_le _)
    have HX : Hid (u0.heap.size ≠ v15.heap.size) := Nat.ne_of_lt (blk_lt HB1.out)
    have HB1 := Lib.hid (blk_alloc HB1.out (Obj.cells #[] 3))
    have HM := Lib.hid (HM.out.alloc (Obj.cells #[] 3))
    generalize v15.alloc (Obj.cells #[] 3) = v5 at *
    refine wpPart_ready (rs := [13]) (by kernel_rfl) (by simp) ?_
    refine AllPart.cons (o := { dst := some 37, op := Op.call { callee := Callee.builtin Builtin.append, args := #[Operand.tmp 29, Operand.tmp 36], argTypes := #[44, 44] }, type := 44, pos := "ref.go:361", after := #[{ on := 5, ground := Ground.data }, { on := 12, ground := Ground.data }], guard := none }) rfl (by kernel_rfl) (fun K hK => ?_) AllPart.nil
    refine step_append_row (by rfl) _ _ 44 (by rfl) i0 (.int .i64 0) 8 Try.underlying44 hii hz0 hz1 hz2 (by rfl) (by omega) (by rfl) HE1.out (by simp) _ gl ((s.got p).map fun (k : Nat) => Value.int .i64 (k : Int)) (by rfl) (RowOf.src (HG0.out.mod HM.out (fun _ _ x => x)) (int_one _)) (by have := HGL.out; unfold maxLen; omega) (by have := HGL.out; omega) ?_
    intro g2 v13 hrow hgrow hat
    have HM0 := HM
    have HM := Lib.hid (HM.out.grown hgrow (fun q hq => by cases hq; exact HN5.out))
    have hS1 := rt_cells (HM.out.blk HT0.out (fun x => x)) (HM.out.blk HK0.out (fun x => x)) HTV.out
    refine hK.out _ _ ?_ (fun hHeld => ?_)
    · exact hS1
    clear hK K
    try simp only [Act.put, List.setIfInBounds_toArray, List.set_cons_zero, List.set_cons_succ]
    clear hS1
    have HGO : Hid (∀ q, g2.ownBlock = some q → w.heap.size ≤ q) := fun q hq => by
        rcases hat with e | e
        · rw [e] at hq; cases hq; exact HN5.out
        · rw [e] at hq; cases hq; exact HM0.out.size
    have hG1 : RowOf v13 3 1 g2 gl ((s.got p).map fun (k : Nat) => Value.int .i64 (k : Int)) := by simpa using hrow
    have HG1 := Lib.hid hG1
    clear hG1
    have HB1 := Lib.hid (blk_grown HB1.out hgrow (fun q hq => by cases hq; exact HX.out))
    obtain ⟨A5, k5, hf5⟩ := HG1.out.form
    obtain rfl : g2 = _ := hf5
    clear hrow hgrow hat HM0
    refine wpPart_ready (rs := [16]) (by kernel_rfl) (by simp) ?_
    refine AllPart.cons (o := { dst := some 40, op := Op.call { callee := Callee.builtin Builtin.append, args := #[Operand.tmp 37, Operand.tmp 39], argTypes := #[44, 44] }, type := 44, pos := "ref.go:361", after := #[{ on := 13, ground := Ground.data }, { on := 15, ground := Ground.data }, { on := 13, ground := Ground.chain }], guard := none }) rfl (by kernel_rfl) (fun K hK => ?_) AllPart.nil
    refine step_append_row (by rfl) _ _ 44 (by rfl) i0 (.int .i64 0) 8 Try.underlying44 hii hz0 hz1 hz2 (by rfl) (by omega) (by rfl) HG1.out (int_one _) _ 1 [.int .i64 (k : Int)] (by rfl) (SrcOk.block HB1.out rfl (fun j u hu => by rw [Nat.zero_add]; simpa using hu) (by simp [Value.oneCell'])) (by have := HGL.out; unfold maxLen; omega) (by have := HGL.out; omega) ?_
    intro g3 v16 hrow3 hgrow3 hat3
    have HM := Lib.hid (HM.out.grown hgrow3 HGO.out)
    have hS1 := rt_cells (HM.out.blk HT0.out (fun x => x)) (HM.out.blk HK0.out (fun x => x)) HTV.out
    have HG3 := Lib.hid hrow3
    obtain ⟨A6, k6, hf6⟩ := hrow3.form
    obtain rfl : g3 = _ := hf6
    clear hrow3 hgrow3 hat3
    refine hK.out _ _ ?_ (fun hHeld => ?_)
    · exact hS1
    clear hK K
    try simp only [Act.put, List.setIfInBounds_toArray, List.set_cons_zero, List.set_cons_succ]
    clear hS1
    refine wpPart_take (i := 17) (oi := { dst := some 41, op := Op.indexAddr 60 (Operand.tmp 27) (Operand.tmp 28), type := 0, pos := "ref.go:361", after := #[{ on := 3, ground := Ground.data }, { on := 4, ground := Ground.data }, { on := 0, ground := Ground.phase }, { on := 1, ground := Ground.phase }, { on := 2, ground := Ground.phase }, { on := 3, ground := Ground.phase }, { on := 4, ground := Ground.phase }, { on := 5, ground := Ground.phase }, { on := 6, ground := Ground.phase }, { on := 7, ground := Ground.phase }, { on := 8, ground := Ground.phase }, { on := 9, ground := Ground.phase }, { on := 10, ground := Ground.phase }, { on := 11, ground := Ground.phase }, { on := 12, ground := Ground.phase }, { on := 13, ground := Ground.phase }, { on := 14, ground := Ground.phase }, { on := 15, ground := Ground.phase }, { on := 16, ground := Ground.phase }], guard := none }) (v := ?_) rfl (by kernel_rfl) (by kernel_rfl) (by kernel_rfl) (by kernel_rfl) (by kernel_rfl) (fun _ _ _ h => h) (Or.inl ⟨by rfl, ?_⟩) (by assumption) ?_
    rotate_left
    · intro w hSw; (try dsimp only at hSw); go_simp <;> with_reducible rfl
    try simp only [Act.put, List.setIfInBounds_toArray, List.set_cons_zero, List.set_cons_succ]
    refine wpPart_ready (rs := [18]) (by kernel_rfl) (by simp) ?_
    refine AllPart.last (o := { dst := none, op := Op.store 44 (Operand.tmp 41) (Operand.tmp 40), type := 0, pos := "ref.go:361", after := #[{ on := 17, ground := Ground.data }, { on := 16, ground := Ground.data }, { on := 16, ground := Ground.chain }, { on := 0, ground := Ground.phase }, { on := 1, ground := Ground.phase }, { on := 2, ground := Ground.phase }, { on := 3, ground := Ground.phase }, { on := 4, ground := Ground.phase }, { on := 5, ground := Ground.phase }, { on := 6, ground := Ground.phase }, { on := 7, ground := Ground.phase }, { on := 8, ground := Ground.phase }, { on := 9, ground := Ground.phase }, { on := 10, ground := Ground.phase }, { on := 11, ground := Ground.phase }, { on := 12, ground := Ground.phase }, { on := 13, ground := Ground.phase }, { on := 14, ground := Ground.phase }, { on := 15, ground := Ground.phase }, { on := 16, ground := Ground.phase }], guard := none }) rfl (by kernel_rfl) (fun K hK => ?_) AllPart.nil
    have hc := hHeld.2.1
    have hf := hHeld.2.2
    go_simp
    refine hK.out _ _ ?_
    clear hK K
    try simp only [Act.put, List.setIfInBounds_toArray, List.set_cons_zero, List.set_cons_succ]
    clear hc hf
    refine wpPart_done (by kernel_rfl) ?_ _
    have hR3 := (HR.out.same HM.out).gots (p := p) (v := .slice A6 (gl + 1) k6) (G := s.got p ++ [k]) (by rw [List.length_append, ← HGE.out]; simpa using HG3.out)
    have HR4 := Lib.hid hR3
    have HM4 : Hid (Mod (fun b => b = tR) w (v16.setCell ⟨tR, p, none⟩ (.slice A6 (gl + 1) k6))) := (HM.out.mono (fun _ _ x => x.elim)).trans (mod_one _ _ _ _)
    clear hR3 HM HG3 HGO HG1 HB1 HE1 HN5 HT0 HK0
    generalize v16.setCell ⟨tR, p, none⟩ (.slice A6 (gl + 1) k6) = w4 at *
    have HT9 : Hid (w4.drew.heap[R]? = some (.cells #[.int .i64 (s.n : Int), .slice (some ⟨b, o, none⟩) s.all.length c, .slice (some ⟨kR, 0, none⟩) s.n s.n, .slice (some ⟨tR, 0, none⟩) s.n s.n] 62 (0, 0))) := HR4.out.top
    have HK9 : Hid (w4.drew.heap[kR]? = some (.cells ((List.range s.n).map kv).toArray 55 (0, 0))) := HR4.out.kn
    have HV9 : Hid (w4.drew.cell? ⟨b, o + k * 4 + 3, none⟩ = some va) := by
      obtain ⟨b', o', cap', v', e', -, -, -, q3, -⟩ := HR4.out.elem (k := k) (m := m) HK.out
      have e' : Value.slice (some ⟨b, o, none⟩) s.all.length c = .slice (some ⟨b', o', none⟩) s.all.length cap' := e'
      cases e'
      exact cell_tr (S := fun b => b = tR) HVA.out HM4.out.drew HVB.out
    have HBO : Hid (Calls Try.prog 33 #[.slice A3 l3 c3, va, .int .i64 (k : Int)] w4.drew fun e w' => ∃ v, e = .returned v ∧ Bits w' v (fun j => (s.knows p j || m.ahead j) || j == k) ∧ Mod (fun _ => False) w4.drew w') := by
      rw [← HKV0.out]
      exact rboth_any _ _ (s.knows p) m.ahead k w4.drew ((HR4.out.ks p hp).quiet (Mod.refl _ _).drew) ((HBA.out.mod HM4.out (fun q hq e => HBT.out q hq e)).quiet (Mod.refl _ _).drew) HK1.out
    have HD4 : Hid (Mod (fun _ => False) w4 w4.drew) := (Mod.refl _ _).drew
    go_wp2_with fail
    refine wp_region_part (S := fun w' => w'.cell? ⟨R, 2, none⟩ = some (.slice (some ⟨kR, 0, none⟩) s.n s.n) ∧ w'.cell? ⟨kR, p, none⟩ = some (.slice A3 l3 c3) ∧ w'.frozen? ⟨kR, p, none⟩ = false ∧ w'.cell? ⟨R, 1, none⟩ = some (.slice (some ⟨b, o, none⟩) s.all.length c) ∧ w'.cell? ⟨b, o + k * 4 + 3, none⟩ = some va) [23] (by kernel_rfl) ?_ (fun hHeld => ?_)
    · exact rk5_cells (W := w4.drew) HT9.out HK9.out HKV.out HV9.out
    generalize w4.drew = u4 at *
    refine wpPart_take (i := 0) (oi := { dst := some 42, op := Op.move (Operand.tmp 0), type := 50, pos := "ref.go:362", after := #[], guard := none }) (v := ?_) rfl (by kernel_rfl) (by kernel_rfl) (by kernel_rfl) (by kernel_rfl) (by kernel_rfl) (fun _ _ _ h => h) (Or.inl ⟨by rfl, ?_⟩) (by assumption) ?_
    rotate_left
    · intro w hSw; (try dsimp only at hSw); go_simp <;> with_reducible rfl
    try simp only [Act.put, List.setIfInBounds_toArray, List.set_cons_zero, List.set_cons_succ]
    refine wpPart_take (i := 1) (oi := { dst := some 43, op := Op.nilCheck (Operand.tmp 42), type := 0, pos := "ref.go:362", after := #[{ on := 0, ground := Ground.data }], guard := none }) (v := ?_) rfl (by kernel_rfl) (by kernel_rfl) (by kernel_rfl) (by kernel_rfl) (by kernel_rfl) (fun _ _ _ h => h) (Or.inl ⟨by rfl, ?_⟩) (by assumption) ?_
    rotate_left
    · intro w hSw; (try dsimp only at hSw); go_simp <;> with_reducible rfl
    try simp only [Act.put, List.setIfInBounds_toArray, List.set_cons_zero, List.set_cons_succ]
    refine wpPart_take (i := 2) (oi := { dst := some 44, op := Op.fieldAddr 62 (Operand.tmp 43) 2, type := 0, pos := "ref.go:362", after := #[{ on := 1, ground := Ground.data }], guard := none }) (v := ?_) rfl (by kernel_rfl) (by kernel_rfl) (by kernel_rfl) (by kernel_rfl) (by kernel_rfl) (fun _ _ _ h => h) (Or.inl ⟨by rfl, ?_⟩) (by assumption) ?_
    rotate_left
    · intro w hSw; (try dsimp only at hSw); go_simp <;> with_reducible rfl
    try simp only [Act.put, List.setIfInBounds_toArray, List.set_cons_zero, List.set_cons_succ]
    refine wpPart_take (i := 3) (oi := { dst := some 45, op := Op.load 59 (Operand.tmp 44), type := 59, pos := "ref.go:362", after := #[{ on := 2, ground := Ground.data }], guard := none }) (v := ?_) rfl (by kernel_rfl) (by kernel_rfl) (by kernel_rfl) (by kernel_rfl) (by kernel_rfl) (fun _ _ _ h => h) (Or.inl ⟨by rfl, ?_⟩) (by assumption) ?_
    rotate_left
    · intro w hSw; (try dsimp only at hSw); go_simp <;> with_reducible rfl
    try simp only [Act.put, List.setIfInBounds_toArray, List.set_cons_zero, List.set_cons_succ]
    refine wpPart_take (i := 4) (oi := { dst := some 46, op := Op.move (Operand.tmp 1), type := 3, pos := "ref.go:362", after := #[], guard := none }) (v := ?_) rfl (by kernel_rfl) (by kernel_rfl) (by kernel_rfl) (by kernel_rfl) (by kernel_rfl) (fun _ _ _ h => h) (Or.inl ⟨by rfl, ?_⟩) (by assumption) ?_
    rotate_left
    · intro w hSw; (try dsimp only at hSw); go_simp <;> with_reducible rfl
    try simp only [Act.put, List.setIfInBounds_toArray, List.set_cons_zero, List.set_cons_succ]
    refine wpPart_take (i := 5) (oi := { dst := some 47, op := Op.move (Operand.tmp 0), type := 50, pos := "ref.go:362", after := #[], guard := none }) (v := ?_) rfl (by kernel_rfl) (by kernel_rfl) (by kernel_rfl) (by kernel_rfl) (by kernel_rfl) (fun _ _ _ h => h) (Or.inl ⟨by rfl, ?_⟩) (by assumption) ?_
    rotate_left
    · intro w hSw; (try dsimp only at hSw); go_simp <;> with_reducible rfl
    try simp only [Act.put, List.setIfInBounds_toArray, List.set_cons_zero, List.set_cons_succ]
    refine wpPart_take (i := 6) (oi := { dst := some 48, op := Op.nilCheck (Operand.tmp 47), type := 0, pos := "ref.go:362", after := #[{ on := 5, ground := Ground.data }], guard := none }) (v := ?_) rfl (by kernel_rfl) (by kernel_rfl) (by kernel_rfl) (by kernel_rfl) (by kernel_rfl) (fun _ _ _ h => h) (Or.inl ⟨by rfl, ?_⟩) (by assumption) ?_
    rotate_left
    · intro w hSw; (try dsimp only at hSw); go_simp <;> with_reducible rfl
    try simp only [Act.put, List.setIfInBounds_toArray, List.set_cons_zero, List.set_cons_succ]
    refine wpPart_take (i := 7) (oi := { dst := some 49, op := Op.fieldAddr 62 (Operand.tmp 48) 2, type := 0, pos := "ref.go:362", after := #[{ on := 6, ground := Ground.data }], guard := none }) (v := ?_) rfl (by kernel_rfl) (by kernel_rfl) (by kernel_rfl) (by kernel_rfl) (by kernel_rfl) (fun _ _ _ h => h) (Or.inl ⟨by rfl, ?_⟩) (by assumption) ?_
    rotate_left
    · intro w hSw; (try dsimp only at hSw); go_simp <;> with_reducible rfl
    try simp only [Act.put, List.setIfInBounds_toArray, List.set_cons_zero, List.set_cons_succ]
    refine wpPart_take (i := 8) (oi := { dst := some 50, op := Op.load 59 (Operand.tmp 49), type := 59, pos := "ref.go:362", after := #[{ on := 7, ground := Ground.data }], guard := none }) (v := ?_) rfl (by kernel_rfl) (by kernel_rfl) (by kernel_rfl) (by kernel_rfl) (by kernel_rfl) (fun _ _ _ h => h) (Or.inl ⟨by rfl, ?_⟩) (by assumption) ?_
    rotate_left
    · intro w hSw; (try dsimp only at hSw); go_simp <;> with_reducible rfl
    try simp only [Act.put, List.setIfInBounds_toArray, List.set_cons_zero, List.set_cons_succ]
    refine wpPart_take (i := 9) (oi := { dst := some 51, op := Op.move (Operand.tmp 1), type := 3, pos := "ref.go:362", after := #[], guard := none }) (v := ?_) rfl (by kernel_rfl) (by kernel_rfl) (by kernel_rfl) (by kernel_rfl) (by kernel_rfl) (fun _ _ _ h => h) (Or.inl ⟨by rfl, ?_⟩) (by assumption) ?_
    rotate_left
    · intro w hSw; (try dsimp only at hSw); go_simp <;> with_reducible rfl
    try simp only [Act.put, List.setIfInBounds_toArray, List.set_cons_zero, List.set_cons_succ]
    refine wpPart_take (i := 10) (oi := { dst := some 52, op := Op.indexAddr 59 (Operand.tmp 50) (Operand.tmp 51), type := 0, pos := "ref.go:362", after := #[{ on := 8, ground := Ground.data }, { on := 9, ground := Ground.data }], guard := none }) (v := ?_) rfl (by kernel_rfl) (by kernel_rfl) (by kernel_rfl) (by kernel_rfl) (by kernel_rfl) (fun _ _ _ h => h) (Or.inl ⟨by rfl, ?_⟩) (by assumption) ?_
    rotate_left
    · intro w hSw; (try dsimp only at hSw); go_simp <;> with_reducible rfl
    try simp only [Act.put, List.setIfInBounds_toArray, List.set_cons_zero, List.set_cons_succ]
    refine wpPart_take (i := 11) (oi := { dst := some 53, op := Op.load 55 (Operand.tmp 52), type := 55, pos := "ref.go:362", after := #[{ on := 10, ground := Ground.data }], guard := none }) (v := ?_) rfl (by kernel_rfl) (by kernel_rfl) (by kernel_rfl) (by kernel_rfl) (by kernel_rfl) (fun _ _ _ h => h) (Or.inl ⟨by rfl, ?_⟩) (by assumption) ?_
    rotate_left
    · intro w hSw; (try dsimp only at hSw); go_simp <;> with_reducible rfl
    try simp only [Act.put, List.setIfInBounds_toArray, List.set_cons_zero, List.set_cons_succ]
    refine wpPart_take (i := 12) (oi := { dst := some 54, op := Op.move (Operand.tmp 0), type := 50, pos := "ref.go:362", after := #[], guard := none }) (v := ?_) rfl (by kernel_rfl) (by kernel_rfl) (by kernel_rfl) (by kernel_rfl) (by kernel_rfl) (fun _ _ _ h => h) (Or.inl ⟨by rfl, ?_⟩) (by assumption) ?_
    rotate_left
    · intro w hSw; (try dsimp only at hSw); go_simp <;> with_reducible rfl
    try simp only [Act.put, List.setIfInBounds_toArray, List.set_cons_zero, List.set_cons_succ]
    refine wpPart_take (i := 13) (oi := { dst := some 55, op := Op.nilCheck (Operand.tmp 54), type := 0, pos := "ref.go:362", after := #[{ on := 12, ground := Ground.data }], guard := none }) (v := ?_) rfl (by kernel_rfl) (by kernel_rfl) (by kernel_rfl) (by kernel_rfl) (by kernel_rfl) (fun _ _ _ h => h) (Or.inl ⟨by rfl, ?_⟩) (by assumption) ?_
    rotate_left
    · intro w hSw; (try dsimp only at hSw); go_simp <;> with_reducible rfl
    try simp only [Act.put, List.setIfInBounds_toArray, List.set_cons_zero, List.set_cons_succ]
    refine wpPart_take (i := 14) (oi := { dst := some 56, op := Op.fieldAddr 62 (Operand.tmp 55) 1, type := 0, pos := "ref.go:362", after := #[{ on := 13, ground := Ground.data }], guard := none }) (v := ?_) rfl (by kernel_rfl) (by kernel_rfl) (by kernel_rfl) (by kernel_rfl) (by kernel_rfl) (fun _ _ _ h => h) (Or.inl ⟨by rfl, ?_⟩) (by assumption) ?_
    rotate_left
    · intro w hSw; (try dsimp only at hSw); go_simp <;> with_reducible rfl
    try simp only [Act.put, List.setIfInBounds_toArray, List.set_cons_zero, List.set_cons_succ]
    refine wpPart_take (i := 15) (oi := { dst := some 57, op := Op.load 58 (Operand.tmp 56), type := 58, pos := "ref.go:362", after := #[{ on := 14, ground := Ground.data }], guard := none }) (v := ?_) rfl (by kernel_rfl) (by kernel_rfl) (by kernel_rfl) (by kernel_rfl) (by kernel_rfl) (fun _ _ _ h => h) (Or.inl ⟨by rfl, ?_⟩) (by assumption) ?_
    rotate_left
    · intro w hSw; (try dsimp only at hSw); go_simp <;> with_reducible rfl
    try simp only [Act.put, List.setIfInBounds_toArray, List.set_cons_zero, List.set_cons_succ]
    refine wpPart_take (i := 16) (oi := { dst := some 58, op := Op.move (Operand.tmp 2), type := 3, pos := "ref.go:362", after := #[], guard := none }) (v := ?_) rfl (by kernel_rfl) (by kernel_rfl) (by kernel_rfl) (by kernel_rfl) (by kernel_rfl) (fun _ _ _ h => h) (Or.inl ⟨by rfl, ?_⟩) (by assumption) ?_
    rotate_left
    · intro w hSw; (try dsimp only at hSw); go_simp <;> with_reducible rfl
    try simp only [Act.put, List.setIfInBounds_toArray, List.set_cons_zero, List.set_cons_succ]
    refine wpPart_take (i := 17) (oi := { dst := some 59, op := Op.indexAddr 58 (Operand.tmp 57) (Operand.tmp 58), type := 0, pos := "ref.go:362", after := #[{ on := 15, ground := Ground.data }, { on := 16, ground := Ground.data }], guard := none }) (v := ?_) rfl (by kernel_rfl) (by kernel_rfl) (by kernel_rfl) (by kernel_rfl) (by kernel_rfl) (fun _ _ _ h => h) (Or.inl ⟨by rfl, ?_⟩) (by assumption) ?_
    rotate_left
    · intro w hSw; (try dsimp only at hSw); go_simp <;> with_reducible rfl
    try simp only [Act.put, List.setIfInBounds_toArray, List.set_cons_zero, List.set_cons_succ]
    refine wpPart_take (i := 18) (oi := { dst := some 60, op := Op.fieldAddr 57 (Operand.tmp 59) 3, type := 0, pos := "ref.go:362", after := #[{ on := 17, ground := Ground.data }], guard := none }) (v := ?_) rfl (by kernel_rfl) (by kernel_rfl) (by kernel_rfl) (by kernel_rfl) (by kernel_rfl) (fun _ _ _ h => h) (Or.inl ⟨by rfl, ?_⟩) (by assumption) ?_
    rotate_left
    · intro w hSw; (try dsimp only at hSw); go_simp <;> with_reducible rfl
    try simp only [Act.put, List.setIfInBounds_toArray, List.set_cons_zero, List.set_cons_succ]
    refine wpPart_take (i := 19) (oi := { dst := some 61, op := Op.load 55 (Operand.tmp 60), type := 55, pos := "ref.go:362", after := #[{ on := 18, ground := Ground.data }], guard := none }) (v := ?_) rfl (by kernel_rfl) (by kernel_rfl) (by kernel_rfl) (by kernel_rfl) (by kernel_rfl) (fun _ _ _ h => h) (Or.inl ⟨by rfl, ?_⟩) (by assumption) ?_
    rotate_left
    · intro w hSw; (try dsimp only at hSw); go_simp <;> with_reducible rfl
    try simp only [Act.put, List.setIfInBounds_toArray, List.set_cons_zero, List.set_cons_succ]
    refine wpPart_take (i := 20) (oi := { dst := some 62, op := Op.move (Operand.tmp 2), type := 3, pos := "ref.go:362", after := #[], guard := none }) (v := ?_) rfl (by kernel_rfl) (by kernel_rfl) (by kernel_rfl) (by kernel_rfl) (by kernel_rfl) (fun _ _ _ h => h) (Or.inl ⟨by rfl, ?_⟩) (by assumption) ?_
    rotate_left
    · intro w hSw; (try dsimp only at hSw); go_simp <;> with_reducible rfl
    try simp only [Act.put, List.setIfInBounds_toArray, List.set_cons_zero, List.set_cons_succ]
    refine wpPart_ready (rs := [21]) (by kernel_rfl) (by simp) ?_
    refine AllPart.cons (o := { dst := some 63, op := Op.call { callee := Callee.value (Operand.func 33), args := #[Operand.tmp 53, Operand.tmp 61, Operand.tmp 62], argTypes := #[55, 55, 3] }, type := 55, pos := "ref.go:362", after := #[{ on := 11, ground := Ground.data }, { on := 19, ground := Ground.data }, { on := 20, ground := Ground.data }], guard := none }) rfl (by kernel_rfl) (fun K hK => ?_) AllPart.nil
    go_simp
    go_at_call 33
    refine HBO.out.mono ?_
    rintro e u6 ⟨nv, rfl, hb6, hm6⟩
    have hS1 := rk5_cells (hm6.blk HT9.out (fun x => x)) (hm6.blk HK9.out (fun x => x)) HKV.out (cell_none HV9.out hm6)
    obtain ⟨A7, n7, k7, rfl⟩ := hb6.form
    have HB6 := Lib.hid hb6
    have HM6 := Lib.hid hm6
    clear hb6 hm6
    refine hK.out _ _ ?_ (fun hHeld => ?_)
    · exact hS1
    clear hK K
    try simp only [Act.put, List.setIfInBounds_toArray, List.set_cons_zero, List.set_cons_succ]
    clear hS1
    refine wpPart_take (i := 22) (oi := { dst := some 64, op := Op.indexAddr 59 (Operand.tmp 45) (Operand.tmp 46), type := 0, pos := "ref.go:362", after := #[{ on := 3, ground := Ground.data }, { on := 4, ground := Ground.data }, { on := 0, ground := Ground.phase }, { on := 1, ground := Ground.phase }, { on := 2, ground := Ground.phase }, { on := 3, ground := Ground.phase }, { on := 4, ground := Ground.phase }, { on := 5, ground := Ground.phase }, { on := 6, ground := Ground.phase }, { on := 7, ground := Ground.phase }, { on := 8, ground := Ground.phase }, { on := 9, ground := Ground.phase }, { on := 10, ground := Ground.phase }, { on := 11, ground := Ground.phase }, { on := 12, ground := Ground.phase }, { on := 13, ground := Ground.phase }, { on := 14, ground := Ground.phase }, { on := 15, ground := Ground.phase }, { on := 16, ground := Ground.phase }, { on := 17, ground := Ground.phase }, { on := 18, ground := Ground.phase }, { on := 19, ground := Ground.phase }, { on := 20, ground := Ground.phase }, { on := 21, ground := Ground.phase }], guard := none }) (v := ?_) rfl (by kernel_rfl) (by kernel_rfl) (by kernel_rfl) (by kernel_rfl) (by kernel_rfl) (fun _ _ _ h => h) (Or.inl ⟨by rfl, ?_⟩) (by assumption) ?_
    rotate_left
    · intro w hSw; (try dsimp only at hSw); go_simp <;> with_reducible rfl
    try simp only [Act.put, List.setIfInBounds_toArray, List.set_cons_zero, List.set_cons_succ]
    refine wpPart_ready (rs := [23]) (by kernel_rfl) (by simp) ?_
    refine AllPart.last (o := { dst := none, op := Op.store 55 (Operand.tmp 64) (Operand.tmp 63), type := 0, pos := "ref.go:362", after := #[{ on := 22, ground := Ground.data }, { on := 21, ground := Ground.data }, { on := 21, ground := Ground.chain }, { on := 0, ground := Ground.phase }, { on := 1, ground := Ground.phase }, { on := 2, ground := Ground.phase }, { on := 3, ground := Ground.phase }, { on := 4, ground := Ground.phase }, { on := 5, ground := Ground.phase }, { on := 6, ground := Ground.phase }, { on := 7, ground := Ground.phase }, { on := 8, ground := Ground.phase }, { on := 9, ground := Ground.phase }, { on := 10, ground := Ground.phase }, { on := 11, ground := Ground.phase }, { on := 12, ground := Ground.phase }, { on := 13, ground := Ground.phase }, { on := 14, ground := Ground.phase }, { on := 15, ground := Ground.phase }, { on := 16, ground := Ground.phase }, { on := 17, ground := Ground.phase }, { on := 18, ground := Ground.phase }, { on := 19, ground := Ground.phase }, { on := 20, ground := Ground.phase }, { on := 21, ground := Ground.phase }], guard := none }) rfl (by kernel_rfl) (fun K hK => ?_) AllPart.nil
    have hc := hHeld.2.1
    have hf := hHeld.2.2.1
    go_simp
    refine hK.out _ _ ?_
    clear hK K
    try simp only [Act.put, List.setIfInBounds_toArray, List.set_cons_zero, List.set_cons_succ]
    clear hc hf
    refine wpPart_done (by kernel_rfl) ?_ _
    have HE : Hid (RTook w R ⟨rows, .slice (some ⟨b, o, none⟩) s.all.length c, kR, tR, kv, gv⟩ (s.took m k p tv) (u6.setCell ⟨kR, p, none⟩ (.slice A7 n7 k7))) := by
      have hm6 := HD4.out.trans HM6.out
      have hk := (HR4.out.same hm6).know (p := p) HB6.out
      refine ⟨_, hk.conv rfl rfl rfl rfl, ?_, fun b hb => ?_⟩
      · exact ((HM4.out.mono (fun i _ x => .inr (.inr (.inr x)))).trans' hm6 (fun _ _ x => x.elim)).set (p := ⟨kR, p, none⟩) (fun _ => .inr (.inr (.inl rfl))) _
      · rcases hb with rfl | hb | rfl | rfl
        · exact .inl rfl
        · exact .inr (.inl hb)
        · exact .inr (.inr (.inl rfl))
        · exact .inr (.inr (.inr rfl))
    clear HBO HT9 HK9 HV9 HB6 HM6 HD4 HR4 HM4
    go_wp2
    go_ret
    exact ⟨rfl, HE.out⟩
  exact AllPart.nil
end Go.Proofs.Yteicceikaecfcaa
