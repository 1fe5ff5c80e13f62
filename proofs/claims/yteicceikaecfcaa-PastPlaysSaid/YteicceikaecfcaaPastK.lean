/-
  Package past: Take.
-/
import Derived.Test.YteicceikaecfcaaPastJ
namespace Go.Proofs.Yteicceikaecfcaa
open Go.RowKit Go.Shoal Go.Maps

/-- In the midst of Take. -/
structure TakeW (w : World) (s : Pa) (m : Ms) (h : Nat → Nat) (S : Nat → Prop) (W : World) : Prop where
  r : W.heap[w.heap.size]? = some (.cells #[.int .i64 (m.frm : Int), .int .u64 (m.num : Int)] 34 (0, 0))
  had : HadAt W s.hB h
  md : Mod S w W
theorem TakeW.next {w W W' : World} {s : Pa} {m : Ms} {h : Nat → Nat} {S : Nat → Prop} {b : Nat} (hw : TakeW w s m h S W) (hm : Mod (· = b) W W') (h1 : b ≠ w.heap.size) (h2 : b ≠ s.hB) {T : Nat → Prop} (hT : ∀ i, i < w.heap.size → S i ∨ i = b → T i) : TakeW w s m h T W' :=
  ⟨hm.blk hw.r (Ne.symm h1), hw.had.mod hm (Ne.symm h2), (hw.md.mono (fun i hi hs => hT i hi (.inl hs))).trans' hm (fun i hi e => hT i hi (.inr e))⟩
theorem TakeW.none {w W W' : World} {s : Pa} {m : Ms} {h : Nat → Nat} {S : Nat → Prop} (hw : TakeW w s m h S W) (hm : Mod (fun _ => False) W W') : TakeW w s m h S W' :=
  ⟨hm.blk hw.r (fun x => x), hw.had.mod hm (fun x => x), hw.md.trans' hm (fun _ _ x => x.elim)⟩
def TookEnd (w : World) (B : Nat) (s : Pa) (m : Ms) (k p : Nat) (e : Ending) (w' : World) : Prop :=
  ∃ v, e = .returned (.bool true) ∧ PastAt w' B (s.took m k p v) ∧ Mod (Foot B s) w w' ∧ ∀ b, Foot B (s.took m k p v) b → Foot B s b ∨ w.heap.size ≤ b
/-- The end of Take. -/
theorem take_end {w u u2 : World} {B : Nat} {s : Pa} {m : Ms} {k p : Nat} {v : Value} (h : PastAt w B s) (hp : p < s.n) (hk : s.all[k]? = some m) (ho : s.open m k p = true)
    (hW : TakeW w s m (s.took m k p v).had (fun b => b = s.hB ∨ b = s.kb p) u) (hK : SetsAt u (s.kb p) (fun j => (s.knows p j || m.ahead j) || j == k)) (hg : u.grownBy u2 (s.tv p).ownBlock)
    (hrow : RowOf u2 34 2 v ((s.got p).length + 1) ((s.names p).flatMap nameCells ++ [.int .i64 (m.frm : Int), .int .u64 (m.num : Int)])) (hat : v.ownBlock = (s.tv p).ownBlock ∨ ∃ q, v.ownBlock = some q ∧ w.heap.size ≤ q)
    (hvt : ∀ b, v.ownBlock = some b → b ≠ s.tB) : TookEnd w B s m k p (.returned (.bool true)) (u2.setCell ⟨s.tB, p, none⟩ v) := by
  obtain ⟨ef, cf, mf⟩ := (h.ks p hp).isMap
  obtain ⟨eh, ch, mh⟩ := h.had.isMap
  have m2 : Mod (TakeS s p) w u2 := (hW.md.mono (fun i _ e => e.elim .inl (fun e => .inr (.inl e)))).trans' (Mod.of_grown (S := fun k => (s.tv p).ownBlock = some k) hg (fun k e _ => e)) (fun i _ e => .inr (.inr (.inl e)))
  have m3 : Mod (TakeS s p) w (u2.setCell ⟨s.tB, p, none⟩ v) := m2.set (p := ⟨s.tB, p, none⟩) (fun _ => .inr (.inr (.inr rfl))) v
  have mt : Mod (· = s.tB) u2 (u2.setCell ⟨s.tB, p, none⟩ v) := (Mod.refl (· = s.tB) u2).set (p := ⟨s.tB, p, none⟩) (fun _ => rfl) v
  have htB : u2.heap[s.tB]? = some (.cells s.trow 28 (0, 0)) := blk_grown (hW.md.blk h.trow (fun e => e.elim (fun e => ne_map h.trow mh e) (fun e => ne_map h.trow mf e))) hg (fun q hq e => row_ne (h.ts p hp) h.trow (by decide) q hq e.symm)
  have hsame : ∀ (q : Nat) (es : Array MapEntry) (c : Nat), w.heap[q]? = some (Obj.map es c) → (u2.setCell ⟨s.tB, p, none⟩ v).heap[q]? = u.heap[q]? := fun q es c hq => by
    have hlt := blk_lt hq
    rw [mt.block q (Nat.lt_of_lt_of_le hlt m2.size) (fun e => ne_map h.trow hq e.symm)]
    exact hg.block q (Nat.lt_of_lt_of_le hlt hW.md.size) (fun e => row_map (h.ts p hp) hq q e.symm rfl)
  have hv : ∀ b, v.ownBlock = some b → (s.tv p).ownBlock = some b ∨ w.heap.size ≤ b := fun b hb => by
    rcases hat with e | ⟨q, e, hq⟩
    · exact .inl (e ▸ hb)
    · rw [e] at hb; cases hb; exact .inr hq
  refine ⟨v, rfl, h.take hp hk ho m3 ((blk_set htB p v).trans (by rw [trow_set s m k p v])) (hW.had.keep (hsame _ _ _ mh)) (hK.keep (hsame _ _ _ mf)) (RowOf.mod hrow mt (fun b hb => hvt b hb)) hv, m3.mono (fun i _ e => ?_), fun b hb => ?_⟩
  · rcases e with e | e | e | e
    · exact .inr (.inr (.inr (.inr (.inr (.inl e)))))
    · exact .inr (.inr (.inr (.inr (.inr (.inr (.inl ⟨p, hp, e⟩))))))
    · exact .inr (.inr (.inr (.inr (.inr (.inr (.inr (.inr ⟨p, hp, e⟩)))))))
    · exact .inr (.inr (.inr (.inr (.inl e))))
  · rcases hb with e | e | e | e | e | e | e | e | ⟨q, hq, e⟩
    · exact .inl (.inl e)
    · exact .inl (.inr (.inl e))
    · exact .inl (.inr (.inr (.inl e)))
    · exact .inl (.inr (.inr (.inr (.inl e))))
    · exact .inl (.inr (.inr (.inr (.inr (.inl e)))))
    · exact .inl (.inr (.inr (.inr (.inr (.inr (.inl e))))))
    · exact .inl (.inr (.inr (.inr (.inr (.inr (.inr (.inl e)))))))
    · exact .inl (.inr (.inr (.inr (.inr (.inr (.inr (.inr (.inl e))))))))
    · have e' : (if q = p then v else s.tv q).ownBlock = some b := e
      by_cases hqp : q = p
      · rw [if_pos hqp] at e'
        rcases hv b e' with h1 | h1
        · exact .inl (.inr (.inr (.inr (.inr (.inr (.inr (.inr (.inr ⟨p, hp, h1⟩))))))))
        · exact .inr h1
      · rw [if_neg hqp] at e'
        exact .inl (.inr (.inr (.inr (.inr (.inr (.inr (.inr (.inr ⟨q, hq, e'⟩))))))))
theorem set_one (p : Int) : Shoal.setOf [p] = oneOf p := by simp [Shoal.setOf]
theorem of_one (v : Value) (p : Int) (w : World) (h : Ints w v [p]) : Calls Try.prog 14 #[v] w fun e w' => e = .returned (.int .u64 ((oneOf p : Nat) : Int)) ∧ w = w' := by
  have := of_any v [p] w h (by simp)
  rw [set_one] at this
  exact this
/-- Behind the first of Take's stores. -/
def TookHad (w W1 : World) (s : Pa) (m : Ms) (k p : Nat) (W : World) : Prop := TakeW w s m (s.took m k p (.slice none 0 0)).had (· = s.hB) W ∧ Mod (· = s.hB) W1 W
theorem take_cells {w : World} {z b p : Nat} {x y v t : Value} {ty ty' : TypeId} {cs : Array Value} {B : Nat} {v0 v1 v2 v4 : Value} (h : w.heap[z]? = some (.cells #[x, y] ty (0, 0))) (hb : w.heap[b]? = some (.cells cs ty' (0, 0))) (hv : cs[p]? = some v) {T : TypeId} (hB : w.heap[B]? = some (.cells #[v0, v1, v2, t, v4] T (0, 0))) :
    w.cell? ⟨B, 3, none⟩ = some t ∧ w.cell? ⟨b, p, none⟩ = some v ∧ w.frozen? ⟨b, p, none⟩ = false ∧ w.cell? ⟨z, 0, none⟩ = some x ∧ w.cell? ⟨z, 1, none⟩ = some y :=
  ⟨(blk_cell hB 3).trans rfl, (blk_cell hb p).trans hv, blk_frozen hb p, two_cells h⟩
theorem src_two (w : World) (a b : Value) (t : Nat) (h : ∀ u ∈ [a, b], u.oneCell' = true) : SrcOk (w.alloc (.cells #[a, b] t)) (.slice (some ⟨w.heap.size, 0, none⟩) 1 1) 1 2 [a, b] :=
  SrcOk.block (blk_new w _) rfl (fun j u hu => by rw [Nat.zero_add]; simpa using hu) h
set_option maxRecDepth 100000 in
set_option maxHeartbeats 4000000 in
theorem take_yes (B : Nat) (s : Pa) (p k : Nat) (m : Ms) (w : World) (h : PastAt w B s) (hp : p < s.n) (hk : s.all[k]? = some m) (ho : s.open m k p = true) :
    Calls Try.prog 12 #[.pointer (some ⟨B, 0, none⟩), .int .i64 p, .agg #[.int .i64 (m.frm : Int), .int .u64 (m.num : Int)]] w (TookEnd w B s m k p) := by
  have hA := h.same (w' := w.alloc (.cells #[.int .i64 (m.frm : Int), .int .u64 (m.num : Int)] 34)) ((Mod.refl _ _).alloc _)
  have HW := Lib.hid (waits_at B s p k m _ hA hp hk)
  rw [ho] at HW
  have HB0 := Lib.hid (blk_new w (.cells #[.int .i64 (m.frm : Int), .int .u64 (m.num : Int)] 34))
  have HM : Hid (Mod (fun _ => False) w (w.alloc (.cells #[.int .i64 (m.frm : Int), .int .u64 (m.num : Int)] 34))) := (Mod.refl _ w).alloc _
  have hklt := (List.getElem?_eq_some_iff.1 hk).1
  have hlen := h.ok.len
  have hn16 := h.ok.n16
  have hgl := h.got_le p
  rw [show (s.names p).length = (s.got p).length from List.length_map ..] at hgl
  have HGL := Lib.hid hgl
  have hi0 : (0 : Int) ≤ (p : Int) := by omega
  have hi1 : (p : Int) < (s.n : Int) := by omega
  have hj0 : (0 : Int) ≤ (k : Int) := by omega
  have hj1 : (k : Int) < (s.all.length : Int) := by omega
  have HP := Lib.hid h
  have HX := Lib.hid hk
  have HO := Lib.hid ho
  have hBz := blk_lt h.top
  have htz := blk_lt h.trow
  clear h hA hk ho hgl
  go_enter Try.func12, Try.ntmps12
  go_wp2_with fail
  refine HW.out.mono ?_
  rintro e W1 ⟨rfl, hm⟩
  have HT1 : Hid (TakeW w s m s.had (fun _ => False) W1) := ⟨hm.blk HB0.out (fun x => x), HP.out.had.mod (HM.out.trans hm) (fun x => x), HM.out.trans hm⟩
  clear hm HW HB0 HM
  have HK4 : Hid (∀ W, Mod (fun _ => False) W1 W → W.cell? ⟨B, 4, none⟩ = some (.map (some s.hB)) ∧ HadAt W s.hB s.had ∧ Mod (fun _ => False) W1 W) := fun W hm => by
    obtain ⟨_, _, _, _, c4⟩ := (HP.out.same (HT1.out.md.trans hm)).cells
    exact ⟨c4, HT1.out.had.mod hm (fun x => x), hm⟩
  have hor := or_bits (s.had k) (oneOf (p : Int)) (HP.out.ok.hlt k) (oneOf_lt _)
  have HOL := Lib.hid (or_lt (HP.out.ok.hlt k) (oneOf_lt (p : Int)))
  go_upto_region 4 with fail
  go_cut [18] (fun _ wx => Hid (TookHad w W1 s m k p wx))
  case first =>
    refine wp_region_part (S := fun w' => w'.cell? ⟨B, 4, none⟩ = some (.map (some s.hB)) ∧ HadAt w' s.hB s.had ∧ Mod (fun _ => False) W1 w') [10] (by kernel_rfl) ?_ (fun hHeld => ?_)
    · exact HK4.out _ (Mod.refl _ _).drew
    generalize W1.drew = u0 at *
    refine wpPart_take (i := 0) (oi := { dst := some 18, op := Op.move (Operand.tmp 0), type := 24, pos := "past.go:119", after := #[], guard := none }) (v := ?_) rfl (by kernel_rfl) (by kernel_rfl) (by kernel_rfl) (by kernel_rfl) (by kernel_rfl) (fun _ _ _ h => h) (Or.inl ⟨by rfl, ?_⟩) (by assumption) ?_
    rotate_left
    · intro w hSw; (try dsimp only at hSw); go_simp <;> with_reducible rfl
    try simp only [Act.put, List.setIfInBounds_toArray, List.set_cons_zero, List.set_cons_succ]
    refine wpPart_take (i := 1) (oi := { dst := some 19, op := Op.nilCheck (Operand.tmp 18), type := 0, pos := "past.go:119", after := #[{ on := 0, ground := Ground.data }], guard := none }) (v := ?_) rfl (by kernel_rfl) (by kernel_rfl) (by kernel_rfl) (by kernel_rfl) (by kernel_rfl) (fun _ _ _ h => h) (Or.inl ⟨by rfl, ?_⟩) (by assumption) ?_
    rotate_left
    · intro w hSw; (try dsimp only at hSw); go_simp <;> with_reducible rfl
    try simp only [Act.put, List.setIfInBounds_toArray, List.set_cons_zero, List.set_cons_succ]
    refine wpPart_take (i := 2) (oi := { dst := some 20, op := Op.fieldAddr 69 (Operand.tmp 19) 4, type := 0, pos := "past.go:119", after := #[{ on := 1, ground := Ground.data }], guard := none }) (v := ?_) rfl (by kernel_rfl) (by kernel_rfl) (by kernel_rfl) (by kernel_rfl) (by kernel_rfl) (fun _ _ _ h => h) (Or.inl ⟨by rfl, ?_⟩) (by assumption) ?_
    rotate_left
    · intro w hSw; (try dsimp only at hSw); go_simp <;> with_reducible rfl
    try simp only [Act.put, List.setIfInBounds_toArray, List.set_cons_zero, List.set_cons_succ]
    refine wpPart_take (i := 3) (oi := { dst := some 21, op := Op.load 66 (Operand.tmp 20), type := 66, pos := "past.go:119", after := #[{ on := 2, ground := Ground.data }], guard := none }) (v := ?_) rfl (by kernel_rfl) (by kernel_rfl) (by kernel_rfl) (by kernel_rfl) (by kernel_rfl) (fun _ _ _ h => h) (Or.inl ⟨by rfl, ?_⟩) (by assumption) ?_
    rotate_left
    · intro w hSw; (try dsimp only at hSw); go_simp <;> with_reducible rfl
    try simp only [Act.put, List.setIfInBounds_toArray, List.set_cons_zero, List.set_cons_succ]
    refine wpPart_take (i := 4) (oi := { dst := some 22, op := Op.move (Operand.tmp 7), type := 3, pos := "past.go:119", after := #[], guard := none }) (v := ?_) rfl (by kernel_rfl) (by kernel_rfl) (by kernel_rfl) (by kernel_rfl) (by kernel_rfl) (fun _ _ _ h => h) (Or.inl ⟨by rfl, ?_⟩) (by assumption) ?_
    rotate_left
    · intro w hSw; (try dsimp only at hSw); go_simp <;> with_reducible rfl
    try simp only [Act.put, List.setIfInBounds_toArray, List.set_cons_zero, List.set_cons_succ]
    refine wpPart_take (i := 6) (oi := { dst := some 24, op := Op.move (Operand.tmp 1), type := 3, pos := "past.go:119", after := #[], guard := none }) (v := ?_) rfl (by kernel_rfl) (by kernel_rfl) (by kernel_rfl) (by kernel_rfl) (by kernel_rfl) (fun _ _ _ h => h) (Or.inl ⟨by rfl, ?_⟩) (by assumption) ?_
    rotate_left
    · intro w hSw; (try dsimp only at hSw); go_simp <;> with_reducible rfl
    try simp only [Act.put, List.setIfInBounds_toArray, List.set_cons_zero, List.set_cons_succ]
    refine wpPart_ready (rs := [5, 7]) (by kernel_rfl) (by simp) ?_
    refine AllPart.cons (o := { dst := some 23, op := Op.lookup 66 (Operand.tmp 21) (Operand.tmp 22) false, type := 37, pos := "past.go:119", after := #[{ on := 3, ground := Ground.data }, { on := 4, ground := Ground.data }], guard := none }) rfl (by kernel_rfl) (fun K hK => ?_) ?_
    · skip
      have hlk := look_had hHeld.2.1 k (by omega)
      go_simp
      refine hK.out _ _ ?_ (fun hHeld => ?_)
      · assumption
      clear hK K
      try simp only [Act.put, List.setIfInBounds_toArray, List.set_cons_zero, List.set_cons_succ]
      clear hlk
      refine wpPart_ready (rs := [7]) (by kernel_rfl) (by simp) ?_
      refine AllPart.cons (o := { dst := some 25, op := Op.buildSlice 44 1 #[(0, Operand.tmp 24)], type := 44, pos := "past.go:119", after := #[{ on := 6, ground := Ground.data }], guard := none }) rfl (by kernel_rfl) (fun K hK => ?_) AllPart.nil
      go_simp
      refine hK.out _ _ ?_ (fun hHeld => ?_)
      · exact HK4.out _ (hHeld.2.2.alloc _)
      clear hK K
      try simp only [Act.put, List.setIfInBounds_toArray, List.set_cons_zero, List.set_cons_succ]
      have HI : Hid (Ints (u0.alloc (.cells #[.int .i64 (p : Int)] 3)) (.slice (some ⟨u0.heap.size, 0, none⟩) 1 1) [(p : Int)]) := Ints.new u0 3 1 [(p : Int)]
      refine wpPart_ready (rs := [8]) (by kernel_rfl) (by simp) ?_
      refine AllPart.cons (o := { dst := some 26, op := Op.call { callee := Callee.value (Operand.func 14), args := #[Operand.tmp 25], argTypes := #[44] }, type := 37, pos := "past.go:119", after := #[{ on := 7, ground := Ground.data }], guard := none }) rfl (by kernel_rfl) (fun K hK => ?_) AllPart.nil
      go_simp
      go_at_call 14
      refine (of_one _ (p : Int) _ HI.out).mono ?_
      rintro e u1 ⟨rfl, rfl⟩
      refine hK.out _ _ ?_ (fun hHeld => ?_)
      · assumption
      clear hK K
      try simp only [Act.put, List.setIfInBounds_toArray, List.set_cons_zero, List.set_cons_succ]
      refine wpPart_take (i := 9) (oi := { dst := some 27, op := Op.binOp BinOp.or 37 (Operand.tmp 23) (Operand.tmp 26) 37, type := 37, pos := "past.go:119", after := #[{ on := 5, ground := Ground.data }, { on := 8, ground := Ground.data }], guard := none }) (v := ?_) rfl (by kernel_rfl) (by kernel_rfl) (by kernel_rfl) (by kernel_rfl) (by kernel_rfl) (fun _ _ _ h => h) (Or.inl ⟨by rfl, ?_⟩) (by assumption) ?_
      rotate_left
      · intro w hSw; (try dsimp only at hSw); go_simp <;> with_reducible rfl
      try simp only [Act.put, List.setIfInBounds_toArray, List.set_cons_zero, List.set_cons_succ]
      refine wpPart_ready (rs := [10]) (by kernel_rfl) (by simp) ?_
      refine AllPart.last (o := { dst := none, op := Op.mapUpdate 66 (Operand.tmp 21) (Operand.tmp 22) (Operand.tmp 27), type := 0, pos := "past.go:119", after := #[{ on := 3, ground := Ground.data }, { on := 4, ground := Ground.data }, { on := 9, ground := Ground.data }, { on := 8, ground := Ground.chain }, { on := 0, ground := Ground.phase }, { on := 1, ground := Ground.phase }, { on := 2, ground := Ground.phase }, { on := 3, ground := Ground.phase }, { on := 4, ground := Ground.phase }, { on := 5, ground := Ground.phase }, { on := 6, ground := Ground.phase }, { on := 7, ground := Ground.phase }, { on := 8, ground := Ground.phase }, { on := 9, ground := Ground.phase }], guard := none }) rfl (by kernel_rfl) (fun K hK => ?_) AllPart.nil
      obtain ⟨W2, hrun, hset, hg2, _⟩ := WordsAt.store hHeld.2.1 Try.underlying3 Try.underlying37 Try.underlying66 k (by omega) _ HOL.out
      have hM1 := hHeld.2.2
      go_simp
      refine hK.out _ _ ?_
      clear hK K
      try simp only [Act.put, List.setIfInBounds_toArray, List.set_cons_zero, List.set_cons_succ]
      refine wpPart_done (by kernel_rfl) ?_ _
      go_wp2_with fail
      go_meet
      have hmm : Mod (· = s.hB) W1 W2 := (hM1.mono (fun _ _ x => x.elim)).trans (Mod.of_grown hg2 (fun k e _ => by cases e; rfl))
      exact ⟨⟨hmm.blk HT1.out.r (by have := HP.out.had.lt_size; omega), hset, (HT1.out.md.mono (fun _ _ x => x.elim)).trans hmm⟩, hmm⟩
    refine AllPart.cons (o := { dst := some 25, op := Op.buildSlice 44 1 #[(0, Operand.tmp 24)], type := 44, pos := "past.go:119", after := #[{ on := 6, ground := Ground.data }], guard := none }) rfl (by kernel_rfl) (fun K hK => ?_) ?_
    · skip
      go_simp
      refine hK.out _ _ ?_ (fun hHeld => ?_)
      · exact HK4.out _ (hHeld.2.2.alloc _)
      clear hK K
      try simp only [Act.put, List.setIfInBounds_toArray, List.set_cons_zero, List.set_cons_succ]
      have HI : Hid (Ints (u0.alloc (.cells #[.int .i64 (p : Int)] 3)) (.slice (some ⟨u0.heap.size, 0, none⟩) 1 1) [(p : Int)]) := Ints.new u0 3 1 [(p : Int)]
      refine wpPart_ready (rs := [5, 8]) (by kernel_rfl) (by simp) ?_
      refine AllPart.cons (o := { dst := some 23, op := Op.lookup 66 (Operand.tmp 21) (Operand.tmp 22) false, type := 37, pos := "past.go:119", after := #[{ on := 3, ground := Ground.data }, { on := 4, ground := Ground.data }], guard := none }) rfl (by kernel_rfl) (fun K hK => ?_) ?_
      · skip
        have hlk := look_had hHeld.2.1 k (by omega)
        go_simp
        refine hK.out _ _ ?_ (fun hHeld => ?_)
        · assumption
        clear hK K
        try simp only [Act.put, List.setIfInBounds_toArray, List.set_cons_zero, List.set_cons_succ]
        clear hlk
        refine wpPart_ready (rs := [8]) (by kernel_rfl) (by simp) ?_
        refine AllPart.cons (o := { dst := some 26, op := Op.call { callee := Callee.value (Operand.func 14), args := #[Operand.tmp 25], argTypes := #[44] }, type := 37, pos := "past.go:119", after := #[{ on := 7, ground := Ground.data }], guard := none }) rfl (by kernel_rfl) (fun K hK => ?_) AllPart.nil
        go_simp
        go_at_call 14
        refine (of_one _ (p : Int) _ HI.out).mono ?_
        rintro e u1 ⟨rfl, rfl⟩
        refine hK.out _ _ ?_ (fun hHeld => ?_)
        · assumption
        clear hK K
        try simp only [Act.put, List.setIfInBounds_toArray, List.set_cons_zero, List.set_cons_succ]
        refine wpPart_take (i := 9) (oi := { dst := some 27, op := Op.binOp BinOp.or 37 (Operand.tmp 23) (Operand.tmp 26) 37, type := 37, pos := "past.go:119", after := #[{ on := 5, ground := Ground.data }, { on := 8, ground := Ground.data }], guard := none }) (v := ?_) rfl (by kernel_rfl) (by kernel_rfl) (by kernel_rfl) (by kernel_rfl) (by kernel_rfl) (fun _ _ _ h => h) (Or.inl ⟨by rfl, ?_⟩) (by assumption) ?_
        rotate_left
        · intro w hSw; (try dsimp only at hSw); go_simp <;> with_reducible rfl
        try simp only [Act.put, List.setIfInBounds_toArray, List.set_cons_zero, List.set_cons_succ]
        refine wpPart_ready (rs := [10]) (by kernel_rfl) (by simp) ?_
        refine AllPart.last (o := { dst := none, op := Op.mapUpdate 66 (Operand.tmp 21) (Operand.tmp 22) (Operand.tmp 27), type := 0, pos := "past.go:119", after := #[{ on := 3, ground := Ground.data }, { on := 4, ground := Ground.data }, { on := 9, ground := Ground.data }, { on := 8, ground := Ground.chain }, { on := 0, ground := Ground.phase }, { on := 1, ground := Ground.phase }, { on := 2, ground := Ground.phase }, { on := 3, ground := Ground.phase }, { on := 4, ground := Ground.phase }, { on := 5, ground := Ground.phase }, { on := 6, ground := Ground.phase }, { on := 7, ground := Ground.phase }, { on := 8, ground := Ground.phase }, { on := 9, ground := Ground.phase }], guard := none }) rfl (by kernel_rfl) (fun K hK => ?_) AllPart.nil
        obtain ⟨W2, hrun, hset, hg2, _⟩ := WordsAt.store hHeld.2.1 Try.underlying3 Try.underlying37 Try.underlying66 k (by omega) _ HOL.out
        have hM1 := hHeld.2.2
        go_simp
        refine hK.out _ _ ?_
        clear hK K
        try simp only [Act.put, List.setIfInBounds_toArray, List.set_cons_zero, List.set_cons_succ]
        refine wpPart_done (by kernel_rfl) ?_ _
        go_wp2_with fail
        go_meet
        have hmm : Mod (· = s.hB) W1 W2 := (hM1.mono (fun _ _ x => x.elim)).trans (Mod.of_grown hg2 (fun k e _ => by cases e; rfl))
        exact ⟨⟨hmm.blk HT1.out.r (by have := HP.out.had.lt_size; omega), hset, (HT1.out.md.mono (fun _ _ x => x.elim)).trans hmm⟩, hmm⟩
      refine AllPart.cons (o := { dst := some 26, op := Op.call { callee := Callee.value (Operand.func 14), args := #[Operand.tmp 25], argTypes := #[44] }, type := 37, pos := "past.go:119", after := #[{ on := 7, ground := Ground.data }], guard := none }) rfl (by kernel_rfl) (fun K hK => ?_) ?_
      · skip
        go_simp
        go_at_call 14
        refine (of_one _ (p : Int) _ HI.out).mono ?_
        rintro e u1 ⟨rfl, rfl⟩
        refine hK.out _ _ ?_ (fun hHeld => ?_)
        · assumption
        clear hK K
        try simp only [Act.put, List.setIfInBounds_toArray, List.set_cons_zero, List.set_cons_succ]
        refine wpPart_ready (rs := [5]) (by kernel_rfl) (by simp) ?_
        refine AllPart.cons (o := { dst := some 23, op := Op.lookup 66 (Operand.tmp 21) (Operand.tmp 22) false, type := 37, pos := "past.go:119", after := #[{ on := 3, ground := Ground.data }, { on := 4, ground := Ground.data }], guard := none }) rfl (by kernel_rfl) (fun K hK => ?_) AllPart.nil
        have hlk := look_had hHeld.2.1 k (by omega)
        go_simp
        refine hK.out _ _ ?_ (fun hHeld => ?_)
        · assumption
        clear hK K
        try simp only [Act.put, List.setIfInBounds_toArray, List.set_cons_zero, List.set_cons_succ]
        clear hlk
        refine wpPart_take (i := 9) (oi := { dst := some 27, op := Op.binOp BinOp.or 37 (Operand.tmp 23) (Operand.tmp 26) 37, type := 37, pos := "past.go:119", after := #[{ on := 5, ground := Ground.data }, { on := 8, ground := Ground.data }], guard := none }) (v := ?_) rfl (by kernel_rfl) (by kernel_rfl) (by kernel_rfl) (by kernel_rfl) (by kernel_rfl) (fun _ _ _ h => h) (Or.inl ⟨by rfl, ?_⟩) (by assumption) ?_
        rotate_left
        · intro w hSw; (try dsimp only at hSw); go_simp <;> with_reducible rfl
        try simp only [Act.put, List.setIfInBounds_toArray, List.set_cons_zero, List.set_cons_succ]
        refine wpPart_ready (rs := [10]) (by kernel_rfl) (by simp) ?_
        refine AllPart.last (o := { dst := none, op := Op.mapUpdate 66 (Operand.tmp 21) (Operand.tmp 22) (Operand.tmp 27), type := 0, pos := "past.go:119", after := #[{ on := 3, ground := Ground.data }, { on := 4, ground := Ground.data }, { on := 9, ground := Ground.data }, { on := 8, ground := Ground.chain }, { on := 0, ground := Ground.phase }, { on := 1, ground := Ground.phase }, { on := 2, ground := Ground.phase }, { on := 3, ground := Ground.phase }, { on := 4, ground := Ground.phase }, { on := 5, ground := Ground.phase }, { on := 6, ground := Ground.phase }, { on := 7, ground := Ground.phase }, { on := 8, ground := Ground.phase }, { on := 9, ground := Ground.phase }], guard := none }) rfl (by kernel_rfl) (fun K hK => ?_) AllPart.nil
        obtain ⟨W2, hrun, hset, hg2, _⟩ := WordsAt.store hHeld.2.1 Try.underlying3 Try.underlying37 Try.underlying66 k (by omega) _ HOL.out
        have hM1 := hHeld.2.2
        go_simp
        refine hK.out _ _ ?_
        clear hK K
        try simp only [Act.put, List.setIfInBounds_toArray, List.set_cons_zero, List.set_cons_succ]
        refine wpPart_done (by kernel_rfl) ?_ _
        go_wp2_with fail
        go_meet
        have hmm : Mod (· = s.hB) W1 W2 := (hM1.mono (fun _ _ x => x.elim)).trans (Mod.of_grown hg2 (fun k e _ => by cases e; rfl))
        exact ⟨⟨hmm.blk HT1.out.r (by have := HP.out.had.lt_size; omega), hset, (HT1.out.md.mono (fun _ _ x => x.elim)).trans hmm⟩, hmm⟩
      exact AllPart.nil
    exact AllPart.nil
  case rest =>
    have HT2 := Lib.hid hcut.out.1
    clear hcut HK4 hor HOL
    obtain ⟨eh, ch, mh⟩ := HP.out.had.isMap
    obtain ⟨ef, cf, mf⟩ := (HP.out.ks p hp).isMap
    have hnB : B ≠ s.hB := ne_map HP.out.top mh
    have hnK : s.kB ≠ s.hB := ne_map HP.out.krow mh
    have hkh : s.kb p ≠ s.hB := fun e => HP.out.apart.hk p hp e.symm
    have hmem := List.mem_of_getElem? HX.out
    have hkm : s.kb p ≠ m.blk := HP.out.apart.ka p m hp hmem
    have hmh : m.blk ≠ s.hB := fun e => HP.out.apart.ha m hmem e.symm
    have hP2 := HT2.out.md
    obtain ⟨c0, c1, _⟩ := top_cells (hP2.blk HP.out.top hnB)
    have ck := (blk_cell (hP2.blk HP.out.krow hnK) p).trans (row_at (fun q => Value.map (some (s.kb q))) hp)
    obtain ⟨b, o, cap, he, hb, hcs⟩ := (HP.out.all.mod hP2 (fun b hb => row_map HP.out.all mh b hb)).elem Ms.len HX.out
    have k3 := hcs 3 _ rfl
    rw [he] at c0
    have hs1 : SetsAt wc (s.kb p) (s.knows p) := SetAt.mod (HP.out.ks p hp) hP2 hkh
    have hs2 : SetsAt wc m.blk m.ahead := SetAt.mod (HP.out.sets m hmem) hP2 hmh
    have HJ := Lib.hid (join_any (s.kb p) m.blk _ _ wc.drew hs1 hs2 hkm)
    clear hcs he hP2 mh hs1 hs2
    go_wp2_with fail
    go_still_tail 15, (by kernel_rfl)
    change wpList _ _ _ _ _ wc.drew
    go_wp2_with fail
    refine HJ.out.mono ?_
    rintro e W3 ⟨rfl, hset, hm⟩
    have HM3 : Hid (Mod (· = s.kb p) wc W3) := ((Mod.refl (· = s.kb p) wc).drew).trans hm
    have HT3 : Hid (TakeW w s m (s.took m k p (.slice none 0 0)).had (fun b => b = s.hB ∨ b = s.kb p) W3) := HT2.out.next HM3.out (by have := (HP.out.ks p hp).lt_size; omega) hkh (fun i _ e => e)
    obtain ⟨W4, hrun, hset4, hg4, _⟩ := SetAt.store hset Try.underlying3 Try.underlying4 Try.underlying71 k (by omega)
    have HM4 : Hid (Mod (· = s.kb p) W3 W4) := Mod.of_grown (S := (· = s.kb p)) hg4 (fun k e _ => by cases e; rfl)
    have HT4 : Hid (TakeW w s m (s.took m k p (.slice none 0 0)).had (fun b => b = s.hB ∨ b = s.kb p) W4) := HT3.out.next HM4.out (by have := (HP.out.ks p hp).lt_size; omega) hkh (fun i _ e => by
      rcases e with e | e
      · exact e
      · exact .inr e)
    have HK4 := Lib.hid hset4
    have hP3 := HT3.out.md
    have hnot : ∀ q, q ≠ s.hB → q ≠ s.kb p → ¬ (q = s.hB ∨ q = s.kb p) := fun q h1 h2 e => e.elim h1 h2
    have hnBk : B ≠ s.kb p := ne_map HP.out.top mf
    have hnKk : s.kB ≠ s.kb p := ne_map HP.out.krow mf
    obtain ⟨_, c1, _⟩ := top_cells (hP3.blk HP.out.top (hnot _ hnB hnBk))
    have ck := (blk_cell (hP3.blk HP.out.krow (hnot _ hnK hnKk)) p).trans (row_at (fun q => Value.map (some (s.kb q))) hp)
    clear c0 k3 hm hset hset4 hg4 hP3 HJ
    go_wp2_with fail
    clear hrun c1 ck
    obtain ⟨i0, hii, hz0, hz1, hz2⟩ := info_parts Try.infoID
    obtain ⟨eh, ch, mh⟩ := HP.out.had.isMap
    have hntB : ¬ (s.tB = s.hB ∨ s.tB = s.kb p) := hnot _ (ne_map HP.out.trow mh) (ne_map HP.out.trow mf)
    have hB4 := HT4.out.md.blk HP.out.top (hnot _ hnB hnBk)
    have ht4 := HT4.out.md.blk HP.out.trow hntB
    have hR4 : RowOf W4 34 2 (s.tv p) (s.got p).length ((s.names p).flatMap nameCells) := (HP.out.ts p hp).mod HT4.out.md (fun b hb => hnot _ (row_map (HP.out.ts p hp) mh b hb) (row_map (HP.out.ts p hp) mf b hb))
    have htv := row_at (fun q => s.tv q) hp
    unfold Pa.top at hB4
    have HNT : Hid (∀ q, (s.tv p).ownBlock = some q → s.tB ≠ q) := fun q hq e => row_ne (HP.out.ts p hp) HP.out.trow (by decide) q hq e.symm
    have HNB : Hid (∀ q, (s.tv p).ownBlock = some q → B ≠ q) := fun q hq e => row_ne (HP.out.ts p hp) HP.out.top (by decide) q hq e.symm
    have HNR : Hid (∀ q, (s.tv p).ownBlock = some q → w.heap.size ≠ q) := fun q hq e => by have := (HP.out.ts p hp).lt hq; omega
    have HTV0 : Hid (∃ v, v = s.tv p) := ⟨_, rfl⟩
    obtain ⟨v, hv⟩ := HTV0.out
    have HV := Lib.hid hv
    rw [← hv] at hR4 htv HNT HNB HNR
    obtain ⟨A, c, rfl⟩ := hR4.form
    have HB4 := Lib.hid hB4
    have HR4 := Lib.hid hR4
    have HTR4 := Lib.hid ht4
    have HTV := Lib.hid htv
    have HRR4 := Lib.hid HT4.out.r
    have HMf := Lib.hid mf
    have HMh := Lib.hid mh
    clear hB4 hR4 ht4 htv hv hntB mf mh hnot
    have hti0 : (0 : Int) ≤ (p : Int) := hi0
    refine wp_region_part (S := fun w' => w'.cell? ⟨B, 3, none⟩ = some (.slice (some ⟨s.tB, 0, none⟩) s.n s.n) ∧ w'.cell? ⟨s.tB, p, none⟩ = some (.slice A (s.got p).length c) ∧ w'.frozen? ⟨s.tB, p, none⟩ = false ∧ w'.cell? ⟨w.heap.size, 0, none⟩ = some (.int .i64 (m.frm : Int)) ∧ w'.cell? ⟨w.heap.size, 1, none⟩ = some (.int .u64 (m.num : Int))) [16] (by kernel_rfl) ?_ (fun hHeld => ?_)
    · exact take_cells (w := W4.drew) HRR4.out HTR4.out HTV.out HB4.out
    have HU0 : Hid (Mod (fun _ => False) W4 W4.drew) := (Mod.refl _ _).drew
    change Hid (W4.drew.heap[B]? = _) at HB4
    change Hid (W4.drew.heap[s.tB]? = _) at HTR4
    change Hid (W4.drew.heap[w.heap.size]? = _) at HRR4
    change Hid (RowOf W4.drew _ _ _ _ _) at HR4
    generalize W4.drew = u0 at *
    refine wpPart_take (i := 0) (oi := { dst := some 52, op := Op.move (Operand.tmp 0), type := 24, pos := "past.go:122", after := #[], guard := none }) (v := ?_) rfl (by kernel_rfl) (by kernel_rfl) (by kernel_rfl) (by kernel_rfl) (by kernel_rfl) (fun _ _ _ h => h) (Or.inl ⟨by rfl, ?_⟩) (by assumption) ?_
    rotate_left
    · intro w hSw; (try dsimp only at hSw); go_simp <;> with_reducible rfl
    try simp only [Act.put, List.setIfInBounds_toArray, List.set_cons_zero, List.set_cons_succ]
    refine wpPart_take (i := 1) (oi := { dst := some 53, op := Op.nilCheck (Operand.tmp 52), type := 0, pos := "past.go:122", after := #[{ on := 0, ground := Ground.data }], guard := none }) (v := ?_) rfl (by kernel_rfl) (by kernel_rfl) (by kernel_rfl) (by kernel_rfl) (by kernel_rfl) (fun _ _ _ h => h) (Or.inl ⟨by rfl, ?_⟩) (by assumption) ?_
    rotate_left
    · intro w hSw; (try dsimp only at hSw); go_simp <;> with_reducible rfl
    try simp only [Act.put, List.setIfInBounds_toArray, List.set_cons_zero, List.set_cons_succ]
    refine wpPart_take (i := 2) (oi := { dst := some 54, op := Op.fieldAddr 69 (Operand.tmp 53) 3, type := 0, pos := "past.go:122", after := #[{ on := 1, ground := Ground.data }], guard := none }) (v := ?_) rfl (by kernel_rfl) (by kernel_rfl) (by kernel_rfl) (by kernel_rfl) (by kernel_rfl) (fun _ _ _ h => h) (Or.inl ⟨by rfl, ?_⟩) (by assumption) ?_
    rotate_left
    · intro w hSw; (try dsimp only at hSw); go_simp <;> with_reducible rfl
    try simp only [Act.put, List.setIfInBounds_toArray, List.set_cons_zero, List.set_cons_succ]
    refine wpPart_take (i := 3) (oi := { dst := some 55, op := Op.load 65 (Operand.tmp 54), type := 65, pos := "past.go:122", after := #[{ on := 2, ground := Ground.data }], guard := none }) (v := ?_) rfl (by kernel_rfl) (by kernel_rfl) (by kernel_rfl) (by kernel_rfl) (by kernel_rfl) (fun _ _ _ h => h) (Or.inl ⟨by rfl, ?_⟩) (by assumption) ?_
    rotate_left
    · intro w hSw; (try dsimp only at hSw); go_simp <;> with_reducible rfl
    try simp only [Act.put, List.setIfInBounds_toArray, List.set_cons_zero, List.set_cons_succ]
    refine wpPart_take (i := 4) (oi := { dst := some 56, op := Op.move (Operand.tmp 1), type := 3, pos := "past.go:122", after := #[], guard := none }) (v := ?_) rfl (by kernel_rfl) (by kernel_rfl) (by kernel_rfl) (by kernel_rfl) (by kernel_rfl) (fun _ _ _ h => h) (Or.inl ⟨by rfl, ?_⟩) (by assumption) ?_
    rotate_left
    · intro w hSw; (try dsimp only at hSw); go_simp <;> with_reducible rfl
    try simp only [Act.put, List.setIfInBounds_toArray, List.set_cons_zero, List.set_cons_succ]
    refine wpPart_take (i := 5) (oi := { dst := some 57, op := Op.move (Operand.tmp 0), type := 24, pos := "past.go:122", after := #[], guard := none }) (v := ?_) rfl (by kernel_rfl) (by kernel_rfl) (by kernel_rfl) (by kernel_rfl) (by kernel_rfl) (fun _ _ _ h => h) (Or.inl ⟨by rfl, ?_⟩) (by assumption) ?_
    rotate_left
    · intro w hSw; (try dsimp only at hSw); go_simp <;> with_reducible rfl
    try simp only [Act.put, List.setIfInBounds_toArray, List.set_cons_zero, List.set_cons_succ]
    refine wpPart_take (i := 6) (oi := { dst := some 58, op := Op.nilCheck (Operand.tmp 57), type := 0, pos := "past.go:122", after := #[{ on := 5, ground := Ground.data }], guard := none }) (v := ?_) rfl (by kernel_rfl) (by kernel_rfl) (by kernel_rfl) (by kernel_rfl) (by kernel_rfl) (fun _ _ _ h => h) (Or.inl ⟨by rfl, ?_⟩) (by assumption) ?_
    rotate_left
    · intro w hSw; (try dsimp only at hSw); go_simp <;> with_reducible rfl
    try simp only [Act.put, List.setIfInBounds_toArray, List.set_cons_zero, List.set_cons_succ]
    refine wpPart_take (i := 7) (oi := { dst := some 59, op := Op.fieldAddr 69 (Operand.tmp 58) 3, type := 0, pos := "past.go:122", after := #[{ on := 6, ground := Ground.data }], guard := none }) (v := ?_) rfl (by kernel_rfl) (by kernel_rfl) (by kernel_rfl) (by kernel_rfl) (by kernel_rfl) (fun _ _ _ h => h) (Or.inl ⟨by rfl, ?_⟩) (by assumption) ?_
    rotate_left
    · intro w hSw; (try dsimp only at hSw); go_simp <;> with_reducible rfl
    try simp only [Act.put, List.setIfInBounds_toArray, List.set_cons_zero, List.set_cons_succ]
    refine wpPart_take (i := 8) (oi := { dst := some 60, op := Op.load 65 (Operand.tmp 59), type := 65, pos := "past.go:122", after := #[{ on := 7, ground := Ground.data }], guard := none }) (v := ?_) rfl (by kernel_rfl) (by kernel_rfl) (by kernel_rfl) (by kernel_rfl) (by kernel_rfl) (fun _ _ _ h => h) (Or.inl ⟨by rfl, ?_⟩) (by assumption) ?_
    rotate_left
    · intro w hSw; (try dsimp only at hSw); go_simp <;> with_reducible rfl
    try simp only [Act.put, List.setIfInBounds_toArray, List.set_cons_zero, List.set_cons_succ]
    refine wpPart_take (i := 9) (oi := { dst := some 61, op := Op.move (Operand.tmp 1), type := 3, pos := "past.go:122", after := #[], guard := none }) (v := ?_) rfl (by kernel_rfl) (by kernel_rfl) (by kernel_rfl) (by kernel_rfl) (by kernel_rfl) (fun _ _ _ h => h) (Or.inl ⟨by rfl, ?_⟩) (by assumption) ?_
    rotate_left
    · intro w hSw; (try dsimp only at hSw); go_simp <;> with_reducible rfl
    try simp only [Act.put, List.setIfInBounds_toArray, List.set_cons_zero, List.set_cons_succ]
    refine wpPart_take (i := 10) (oi := { dst := some 62, op := Op.indexAddr 65 (Operand.tmp 60) (Operand.tmp 61), type := 0, pos := "past.go:122", after := #[{ on := 8, ground := Ground.data }, { on := 9, ground := Ground.data }], guard := none }) (v := ?_) rfl (by kernel_rfl) (by kernel_rfl) (by kernel_rfl) (by kernel_rfl) (by kernel_rfl) (fun _ _ _ h => h) (Or.inl ⟨by rfl, ?_⟩) (by assumption) ?_
    rotate_left
    · intro w hSw; (try dsimp only at hSw); go_simp <;> with_reducible rfl
    try simp only [Act.put, List.setIfInBounds_toArray, List.set_cons_zero, List.set_cons_succ]
    refine wpPart_take (i := 11) (oi := { dst := some 63, op := Op.load 28 (Operand.tmp 62), type := 28, pos := "past.go:122", after := #[{ on := 10, ground := Ground.data }], guard := none }) (v := ?_) rfl (by kernel_rfl) (by kernel_rfl) (by kernel_rfl) (by kernel_rfl) (by kernel_rfl) (fun _ _ _ h => h) (Or.inl ⟨by rfl, ?_⟩) (by assumption) ?_
    rotate_left
    · intro w hSw; (try dsimp only at hSw); go_simp <;> with_reducible rfl
    try simp only [Act.put, List.setIfInBounds_toArray, List.set_cons_zero, List.set_cons_succ]
    refine wpPart_take (i := 12) (oi := { dst := some 64, op := Op.load 34 (Operand.tmp 5), type := 34, pos := "past.go:122", after := #[], guard := none }) (v := ?_) rfl (by kernel_rfl) (by kernel_rfl) (by kernel_rfl) (by kernel_rfl) (by kernel_rfl) (fun _ _ _ h => h) (Or.inl ⟨by rfl, ?_⟩) (by assumption) ?_
    rotate_left
    · intro w hSw; (try dsimp only at hSw); go_simp <;> with_reducible rfl
    try simp only [Act.put, List.setIfInBounds_toArray, List.set_cons_zero, List.set_cons_succ]
    refine wpPart_ready (rs := [13]) (by kernel_rfl) (by simp) ?_
    refine AllPart.cons (o := { dst := some 65, op := Op.buildSlice 28 1 #[(0, Operand.tmp 64)], type := 28, pos := "past.go:122", after := #[{ on := 12, ground := Ground.data }], guard := none }) rfl (by kernel_rfl) (fun K hK => ?_) AllPart.nil
    go_simp
    refine hK.out _ _ ?_ (fun hHeld => ?_)
    · first | exact hS1 | exact take_cells (blk_alloc HRR4.out _) (blk_alloc HTR4.out _) HTV.out (blk_alloc HB4.out _)
    clear hK K
    try simp only [Act.put, List.setIfInBounds_toArray, List.set_cons_zero, List.set_cons_succ]
    refine wpPart_ready (rs := [14]) (by kernel_rfl) (by simp) ?_
    refine AllPart.cons (o := { dst := some 66, op := Op.call { callee := Callee.builtin Builtin.append, args := #[Operand.tmp 63, Operand.tmp 65], argTypes := #[28, 28] }, type := 28, pos := "past.go:122", after := #[{ on := 11, ground := Ground.data }, { on := 13, ground := Ground.data }], guard := none }) rfl (by kernel_rfl) (fun K hK => ?_) AllPart.nil
    refine step_append_row (by rfl) _ _ 28 (by rfl) i0 (.agg #[.int .i64 0, .int .u64 0]) 16 Try.underlying28 hii hz0 hz1 hz2 (by rfl) (by omega) (by rfl) (HR4.out.alloc _) (nameCells_one _) _ 1 [.int .i64 (m.frm : Int), .int .u64 (m.num : Int)] (by rfl) (src_two _ _ _ _ (by simp [Value.oneCell'])) (by have := HGL.out; unfold maxLen; omega) (by have := HGL.out; omega) ?_
    intro av2 u2 hrow hgrow hat
    have hS1 := take_cells (blk_grown (blk_alloc HRR4.out _) hgrow HNR.out) (blk_grown (blk_alloc HTR4.out _) hgrow HNT.out) HTV.out (blk_grown (blk_alloc HB4.out _) hgrow HNB.out)
    obtain ⟨A5, k5, rfl⟩ := hrow.form
    refine hK.out _ _ ?_ (fun hHeld => ?_)
    · first | exact hS1 | exact take_cells (blk_alloc HRR4.out _) (blk_alloc HTR4.out _) HTV.out (blk_alloc HB4.out _)
    clear hK K
    try simp only [Act.put, List.setIfInBounds_toArray, List.set_cons_zero, List.set_cons_succ]
    clear hS1
    refine wpPart_take (i := 15) (oi := { dst := some 67, op := Op.indexAddr 65 (Operand.tmp 55) (Operand.tmp 56), type := 0, pos := "past.go:122", after := #[{ on := 3, ground := Ground.data }, { on := 4, ground := Ground.data }, { on := 0, ground := Ground.phase }, { on := 1, ground := Ground.phase }, { on := 2, ground := Ground.phase }, { on := 3, ground := Ground.phase }, { on := 4, ground := Ground.phase }, { on := 5, ground := Ground.phase }, { on := 6, ground := Ground.phase }, { on := 7, ground := Ground.phase }, { on := 8, ground := Ground.phase }, { on := 9, ground := Ground.phase }, { on := 10, ground := Ground.phase }, { on := 11, ground := Ground.phase }, { on := 12, ground := Ground.phase }, { on := 13, ground := Ground.phase }, { on := 14, ground := Ground.phase }], guard := none }) (v := ?_) rfl (by kernel_rfl) (by kernel_rfl) (by kernel_rfl) (by kernel_rfl) (by kernel_rfl) (fun _ _ _ h => h) (Or.inl ⟨by rfl, ?_⟩) (by assumption) ?_
    rotate_left
    · intro w hSw; (try dsimp only at hSw); go_simp <;> with_reducible rfl
    try simp only [Act.put, List.setIfInBounds_toArray, List.set_cons_zero, List.set_cons_succ]
    refine wpPart_ready (rs := [16]) (by kernel_rfl) (by simp) ?_
    refine AllPart.last (o := { dst := none, op := Op.store 28 (Operand.tmp 67) (Operand.tmp 66), type := 0, pos := "past.go:122", after := #[{ on := 15, ground := Ground.data }, { on := 14, ground := Ground.data }, { on := 14, ground := Ground.chain }, { on := 0, ground := Ground.phase }, { on := 1, ground := Ground.phase }, { on := 2, ground := Ground.phase }, { on := 3, ground := Ground.phase }, { on := 4, ground := Ground.phase }, { on := 5, ground := Ground.phase }, { on := 6, ground := Ground.phase }, { on := 7, ground := Ground.phase }, { on := 8, ground := Ground.phase }, { on := 9, ground := Ground.phase }, { on := 10, ground := Ground.phase }, { on := 11, ground := Ground.phase }, { on := 12, ground := Ground.phase }, { on := 13, ground := Ground.phase }, { on := 14, ground := Ground.phase }], guard := none }) rfl (by kernel_rfl) (fun K hK => ?_) AllPart.nil
    have hc := hHeld.2.1
    have hf := hHeld.2.2.1
    go_simp
    refine hK.out _ _ ?_
    clear hK K
    try simp only [Act.put, List.setIfInBounds_toArray, List.set_cons_zero, List.set_cons_succ]
    clear hc hf
    refine wpPart_done (by kernel_rfl) ?_ _
    have hvt : ∀ b, (Value.slice A5 ((s.got p).length + 1) k5).ownBlock = some b → b ≠ s.tB := fun b hb => by
      rcases hat with e | e
      · rw [e] at hb
        exact fun e => HNT.out b hb e.symm
      · rw [e] at hb
        cases hb
        have h1 := blk_lt HTR4.out
        have e2 : (u0.alloc (.cells #[.int .i64 (m.frm : Int), .int .u64 (m.num : Int)] 34)).heap.size = u0.heap.size + 1 := by simp
        rw [e2]
        omega
    have hUA : Mod (fun _ => False) W4 (u0.alloc (.cells #[.int .i64 (m.frm : Int), .int .u64 (m.num : Int)] 34)) := HU0.out.alloc _
    have HE := Lib.hid (take_end (v := .slice A5 ((s.got p).length + 1) k5) HP.out hp HX.out HO.out (HT4.out.none hUA) (HK4.out.mod hUA (fun x => x)) (by rw [← HV.out]; exact hgrow) hrow (by
      rw [← HV.out]
      refine hat.imp id (fun e => ⟨_, e, ?_⟩)
      have h1 := blk_lt HRR4.out
      simp
      omega) hvt)
    clear hrow hgrow hat hvt hHeld hUA HT2 HT3 HT4 hii hz0 hz1 hz2
    generalize u2.setCell ⟨s.tB, p, none⟩ (.slice A5 ((s.got p).length + 1) k5) = W at *
    go_wp2
    go_ret
    exact HE.out
end Go.Proofs.Yteicceikaecfcaa
