/-
  Package ship: Push.
-/
import Derived.Test.YtcgfbbfepopinaaShipD
namespace Go.Proofs.Ytcgfbbfepopinaa
open Go.RowKit Go.Shoal

def Shp.put (s : Shp) (b : ByteArray) : Shp := { s with waits := s.waits ++ [b] }
/-- What Push leaves where there is room. -/
def PushEnd (w : World) (B pb : Nat) (ov wv : Value) (s : Shp) (b : ByteArray) (e : Ending) (w' : World) : Prop :=
  ∃ v ov' wv', e = .returned (.tuple #[v, .bool true]) ∧ ShipAt w' B pb ov' wv' (s.put b).filled ∧ Mod (Foot B pb ov wv) w w' ∧ (∀ k, ov'.ownBlock = some k → ov.ownBlock = some k ∨ w.heap.size ≤ k) ∧ (∀ k, wv'.ownBlock = some k → wv.ownBlock = some k ∨ w.heap.size ≤ k) ∧
    ItemsAt (fun q => w.heap.size ≤ q ∧ ¬ Foot B pb ov' wv' q) w' v (s.put b).news ∧ ∀ q, v.ownBlock = some q → w.heap.size ≤ q ∧ ¬ Foot B pb ov' wv' q
theorem push_cells {w : World} {B : Nat} {c0 c1 c2 c3 c4 c5 : Value} {t : TypeId} (hB : w.heap[B]? = some (.cells #[c0, c1, c2, c3, c4, c5] t (0, 0))) : w.cell? ⟨B, 4, none⟩ = some c4 ∧ w.frozen? ⟨B, 4, none⟩ = false := ⟨(blk_cell hB 4).trans rfl, blk_frozen hB 4⟩
/-- Behind the append of Push. -/
theorem push_mid {w u u2 : World} {B pb : Nat} {ov wv wv' bv : Value} {s : Shp} {b : ByteArray} {lw : List (ByteArray × Value)} (hB : u.heap[B]? = some (.cells #[.int .i64 s.win, .int .i64 s.que, .pointer (some ⟨pb, 0, none⟩), ov, wv, .int .u64 s.last] 69 (0, 0))) (hR : ShipRest u pb ov wv s)
    (hM : Mod (Foot B pb ov wv) w u) (h1 : lw.map (·.1) = s.waits) (h3 : ∀ p ∈ lw, BytesAt anyN u p.2 p.1) (hbv : BytesAt anyN u bv b) (hg : u.grownBy u2 wv.ownBlock)
    (hrow : RowOf u2 31 1 wv' (s.waits.length + 1) (lw.map (·.2) ++ [bv])) : ShipAt (u2.setCell ⟨B, 4, none⟩ wv') B pb ov wv' (s.put b) ∧ Mod (Foot B pb ov wv) w (u2.setCell ⟨B, 4, none⟩ wv') := by
  obtain ⟨cu, hcu⟩ : ∃ cu, ∀ k, wv.ownBlock = some k → u.heap[k]? = some (.cells cu 31 (0, 0)) := by
    obtain ⟨_, _, hrw, _⟩ := hR.2.2
    cases hob : wv.ownBlock with
    | none => exact ⟨#[], fun k hk => (by cases hk)⟩
    | some q =>
      obtain ⟨cu, hc⟩ := hrw.block hob
      exact ⟨cu, fun k hk => by cases hk; exact hc⟩
  have hkt : KeepT [5, 45, 76, 69] u u2 := KeepT.grown hg (fun k hk => ⟨cu, _, hcu k hk, by decide⟩)
  have hB2 := hkt _ _ _ (by decide) hB
  have hs1 : KeepT [5, 31, 76, 45] u2 (u2.setCell ⟨B, 4, none⟩ wv') := KeepT.set hB2 (by decide) _
  have hbod : BodiesAt anyN u2 wv' (s.waits ++ [b]) := by
    refine ⟨lw ++ [(b, bv)], by rw [List.map_append, h1]; rfl, ?_, fun p hp => ?_⟩
    · rw [List.map_append, List.length_append]
      exact hrow
    · rcases List.mem_append.1 hp with hp | hp
      · exact (h3 p hp).keepT hkt (by decide)
      · obtain rfl := List.mem_singleton.1 hp
        exact hbv.keepT hkt (by decide)
  refine ⟨⟨(blk_set hB2 4 wv').trans rfl, (hR.1.keepT hkt (by decide)).keepT hs1 (by decide), (hR.2.1.keepT hkt (by decide) (by decide)).keepT hs1 (by decide) (by decide), hbod.keepT hs1 (by decide) (by decide)⟩, ?_⟩
  exact (hM.trans' (Mod.of_grown (S := fun k => wv.ownBlock = some k) hg (fun k e _ => e)) (fun i _ hk => .inr (.inr (.inr hk)))).set (fun _ => .inl rfl) _
theorem push_end {w W w2 : World} {B pb : Nat} {ov wv wv' : Value} {s : Shp} {b : ByteArray} {v ov2 wv2 : Value} (hM : Mod (Foot B pb ov wv) w W) (hat : wv'.ownBlock = wv.ownBlock ∨ ∃ k, wv'.ownBlock = some k ∧ w.heap.size ≤ k)
    (a1 : ShipAt w2 B pb ov2 wv2 (s.put b).filled) (a2 : Mod (Foot B pb ov wv') W w2) (a3 : ∀ k, ov2.ownBlock = some k → ov.ownBlock = some k ∨ W.heap.size ≤ k) (a4 : ∀ k, wv2.ownBlock = some k → wv'.ownBlock = some k)
    (a5 : ItemsAt (fun q => W.heap.size ≤ q ∧ ¬ Foot B pb ov2 wv2 q) w2 v (s.put b).news) (a6 : ∀ q, v.ownBlock = some q → W.heap.size ≤ q ∧ ¬ Foot B pb ov2 wv2 q) : PushEnd w B pb ov wv s b (.returned (.tuple #[v, .bool true])) w2 := by
  have hsz := hM.size
  refine ⟨v, ov2, wv2, rfl, a1, hM.trans' a2 (fun i hi hF => ?_), fun k hk => (a3 k hk).imp id (fun h => by omega), fun k hk => ?_, a5.mono (fun q _ hq => ⟨by omega, hq.2⟩), fun q hq => ⟨by have := (a6 q hq).1; omega, (a6 q hq).2⟩⟩
  · rcases hF with h | h | h | h
    · exact .inl h
    · exact .inr (.inl h)
    · exact .inr (.inr (.inl h))
    · rcases hat with e | ⟨k, e, hk⟩
      · exact .inr (.inr (.inr (e ▸ h)))
      · rw [e] at h; cases h; omega
  · have := a4 k hk
    rcases hat with e | ⟨q, e, hq⟩
    · exact .inl (e ▸ this)
    · rw [e] at this; cases this; exact .inr hq
set_option maxHeartbeats 400000 in
theorem push_no (w : World) (B pb : Nat) (ov wv v : Value) (s : Shp) (b : Bool) (h : ShipAt w B pb ov wv s) (hq : 2 ≤ s.que ∧ s.que ≤ 32) (hr : s.room b = false) :
    Calls Try.prog 10 #[.pointer (some ⟨B, 0, none⟩), v, .bool b] w fun e w' => e = .returned (.tuple #[.slice none 0 0, .bool false]) ∧ ∃ n, w' = w.drewN n := by
  have HR := room_any w B pb ov wv s b h hq
  rw [hr] at HR
  have HR' := Lib.hid HR
  clear HR h hr
  go_enter Try.func10, Try.ntmps10
  go_wp2_with fail
  refine HR'.out.mono ?_
  rintro e w1 ⟨rfl, n, hn⟩
  have HN := Lib.hid hn
  clear hn
  go_wp2
  go_ret2
  exact ⟨rfl, n, HN.out⟩
set_option maxRecDepth 100000 in
set_option maxHeartbeats 2000000 in
theorem push_yes (w : World) (B pb : Nat) (ov wv v : Value) (s : Shp) (b : Bool) (x : ByteArray) (h : ShipAt w B pb ov wv s) (hf : s.Fit) (hq : 2 ≤ s.que ∧ s.que ≤ 32) (hw : s.win ≤ 16) (hr : s.room b = true) (hv : SrcOk w v x.size 1 (byteCells x)) (hx : x.size ≤ 1000) :
    Calls Try.prog 10 #[.pointer (some ⟨B, 0, none⟩), v, .bool b] w (PushEnd w B pb ov wv s x) := by
  obtain ⟨i0, hii, hz0', hz1', hz2'⟩ := info_parts Try.infoBytes
  have HR := room_any w B pb ov wv s b h hq
  rw [hr] at HR
  have HR' := Lib.hid HR
  have hwl : s.waits.length < s.que := by
    unfold Shp.room at hr
    split at hr <;> simp at hr <;> omega
  have HF1 : Hid ((s.put x).Fit) := ⟨hf.1, by show (s.waits ++ [x]).length ≤ 32; rw [List.length_append]; simp; omega, hf.2.2.1, fun y hy => by
    rcases List.mem_append.1 hy with hy | hy
    · exact hf.2.2.2.1 y hy
    · obtain rfl := List.mem_singleton.1 hy
      exact hx, hf.2.2.2.2⟩
  have HLen : Hid (s.waits.length ≤ 32) := hf.2.1
  have HH := Lib.hid h
  have HV := Lib.hid hv
  obtain ⟨A, c, rfl⟩ := hv.form
  obtain ⟨lw, hw1, hw2, hw3⟩ := h.2.2.2
  have HW1 := Lib.hid hw1
  have HW2 := Lib.hid hw2
  have HW3 := Lib.hid hw3
  obtain ⟨A1, k1, rfl⟩ := hw2.form
  clear HR h hr hf hv hw1 hw2 hw3 hwl
  go_enter Try.func10, Try.ntmps10
  go_wp2_with fail
  refine HR'.out.mono ?_
  rintro e w1 ⟨rfl, nr, hn⟩
  have hheap : w1.heap = w.heap := by rw [hn]; rfl
  have HS1 : Hid (ShipAt w1 B pb ov (.slice A1 s.waits.length k1) s) := by rw [hn]; exact HH.out
  have HM1 : Hid (Mod (fun _ => False) w w1) := by rw [hn]; exact (Mod.refl _ _).drewN _
  have HC : Hid (∀ W, Mod (fun _ => False) w W → Calls Try.prog 25 #[.slice A x.size c] W (Cloned W x)) := fun W hm => clone_any _ x W (HV.out.below hm.none_below) hx
  have HU : Hid (∀ W, ShipAt W B pb ov (.slice A1 s.waits.length k1) s → (∀ q, (Value.slice A1 s.waits.length k1).ownBlock = some q → B ≠ q)) := fun W hW q hq e => by
    obtain ⟨lw', _, hrw, _⟩ := hW.2.2.2
    obtain ⟨cu, hcu⟩ := hrw.block hq
    rw [← e, hW.1] at hcu
    cases hcu
  clear hn hheap
  go_wp2_with fail
  refine wp_region_part (S := fun w' => w'.cell? ⟨B, 4, none⟩ = some (.slice A1 s.waits.length k1) ∧ w'.frozen? ⟨B, 4, none⟩ = false) [11] (by kernel_rfl) ?_ (fun hHeld => ?_)
  · exact push_cells (w := w1.drew) HS1.out.1
  refine wpPart_take (i := 0) (oi := { dst := some 12, op := Op.move (Operand.tmp 0), type := 24, pos := "ship.go:72", after := #[], guard := none }) (v := ?_) rfl (by kernel_rfl) (by kernel_rfl) (by kernel_rfl) (by kernel_rfl) (by kernel_rfl) (fun _ _ _ h => h) (Or.inl ⟨by rfl, ?_⟩) (by assumption) ?_
  rotate_left
  · intro w hSw; (try dsimp only at hSw); go_simp <;> with_reducible rfl
  try simp only [Act.put, List.setIfInBounds_toArray, List.set_cons_zero, List.set_cons_succ]
  refine wpPart_take (i := 1) (oi := { dst := some 13, op := Op.move (Operand.tmp 0), type := 24, pos := "ship.go:72", after := #[], guard := none }) (v := ?_) rfl (by kernel_rfl) (by kernel_rfl) (by kernel_rfl) (by kernel_rfl) (by kernel_rfl) (fun _ _ _ h => h) (Or.inl ⟨by rfl, ?_⟩) (by assumption) ?_
  rotate_left
  · intro w hSw; (try dsimp only at hSw); go_simp <;> with_reducible rfl
  try simp only [Act.put, List.setIfInBounds_toArray, List.set_cons_zero, List.set_cons_succ]
  refine wpPart_take (i := 2) (oi := { dst := some 14, op := Op.nilCheck (Operand.tmp 13), type := 0, pos := "ship.go:72", after := #[{ on := 1, ground := Ground.data }], guard := none }) (v := ?_) rfl (by kernel_rfl) (by kernel_rfl) (by kernel_rfl) (by kernel_rfl) (by kernel_rfl) (fun _ _ _ h => h) (Or.inl ⟨by rfl, ?_⟩) (by assumption) ?_
  rotate_left
  · intro w hSw; (try dsimp only at hSw); go_simp <;> with_reducible rfl
  try simp only [Act.put, List.setIfInBounds_toArray, List.set_cons_zero, List.set_cons_succ]
  refine wpPart_take (i := 3) (oi := { dst := some 15, op := Op.fieldAddr 69 (Operand.tmp 14) 4, type := 0, pos := "ship.go:72", after := #[{ on := 2, ground := Ground.data }], guard := none }) (v := ?_) rfl (by kernel_rfl) (by kernel_rfl) (by kernel_rfl) (by kernel_rfl) (by kernel_rfl) (fun _ _ _ h => h) (Or.inl ⟨by rfl, ?_⟩) (by assumption) ?_
  rotate_left
  · intro w hSw; (try dsimp only at hSw); go_simp <;> with_reducible rfl
  try simp only [Act.put, List.setIfInBounds_toArray, List.set_cons_zero, List.set_cons_succ]
  refine wpPart_take (i := 4) (oi := { dst := some 16, op := Op.load 38 (Operand.tmp 15), type := 38, pos := "ship.go:72", after := #[{ on := 3, ground := Ground.data }], guard := none }) (v := ?_) rfl (by kernel_rfl) (by kernel_rfl) (by kernel_rfl) (by kernel_rfl) (by kernel_rfl) (fun _ _ _ h => h) (Or.inl ⟨by rfl, ?_⟩) (by assumption) ?_
  rotate_left
  · intro w hSw; (try dsimp only at hSw); go_simp <;> with_reducible rfl
  try simp only [Act.put, List.setIfInBounds_toArray, List.set_cons_zero, List.set_cons_succ]
  refine wpPart_take (i := 5) (oi := { dst := some 17, op := Op.move (Operand.tmp 1), type := 31, pos := "ship.go:72", after := #[], guard := none }) (v := ?_) rfl (by kernel_rfl) (by kernel_rfl) (by kernel_rfl) (by kernel_rfl) (by kernel_rfl) (fun _ _ _ h => h) (Or.inl ⟨by rfl, ?_⟩) (by assumption) ?_
  rotate_left
  · intro w hSw; (try dsimp only at hSw); go_simp <;> with_reducible rfl
  try simp only [Act.put, List.setIfInBounds_toArray, List.set_cons_zero, List.set_cons_succ]
  refine wpPart_ready (rs := [6]) (by kernel_rfl) (by simp) ?_
  refine AllPart.cons (o := { dst := some 18, op := Op.call { callee := Callee.value (Operand.func 25), args := #[Operand.tmp 17], argTypes := #[31] }, type := 31, pos := "ship.go:72", after := #[{ on := 5, ground := Ground.data }], guard := none }) rfl (by kernel_rfl) (fun K hK => ?_) AllPart.nil
  go_simp
  go_at_call 25
  refine (HC.out _ (HM1.out.drew)).mono ?_
  rintro e u ⟨xv, rfl, hb, hm⟩
  have hsh : ShipAt u B pb ov (.slice A1 s.waits.length k1) s := ShipAt.none (w := w1.drew) HS1.out hm
  have hS1 := push_cells hsh.1
  obtain ⟨A3, c3, rfl⟩ := hb.1.form
  refine hK.out _ _ ?_ (fun hHeld => ?_)
  · first | exact hS1 | exact push_cells (blk_alloc HBu.out _)
  clear hK K
  try simp only [Act.put, List.setIfInBounds_toArray, List.set_cons_zero, List.set_cons_succ]
  have HBu : Hid (u.heap[B]? = some (Obj.cells #[.int .i64 s.win, .int .i64 s.que, .pointer (some ⟨pb, 0, none⟩), ov, .slice A1 s.waits.length k1, .int .u64 s.last] 69 (0, 0))) := hsh.1
  have HRu := Lib.hid hsh.2
  have HMf : Hid (Mod (fun _ => False) w u) := (HM1.out.drew).trans hm
  have HMu : Hid (Mod (Foot B pb ov (.slice A1 s.waits.length k1)) w u) := HMf.out.mono (fun _ _ x => x.elim)
  have HW3u : Hid (∀ p ∈ lw, BytesAt anyN u p.2 p.1) := fun p hp => (HW3.out p hp).mod HMf.out (fun _ _ _ x => x)
  have HXu : Hid (BytesAt anyN u (.slice A3 x.size c3) x) := hb.mono (fun _ _ _ => trivial)
  have HNE := Lib.hid (HU.out u hsh)
  have HW2u := Lib.hid (HW2.out.mod HMf.out (fun _ _ x => x))
  clear hS1 hsh hb hm
  refine wpPart_ready (rs := [7]) (by kernel_rfl) (by simp) ?_
  refine AllPart.cons (o := { dst := some 19, op := Op.buildSlice 38 1 #[(0, Operand.tmp 18)], type := 38, pos := "ship.go:72", after := #[{ on := 6, ground := Ground.data }], guard := none }) rfl (by kernel_rfl) (fun K hK => ?_) AllPart.nil
  go_simp
  refine hK.out _ _ ?_ (fun hHeld => ?_)
  · first | exact hS1 | exact push_cells (blk_alloc HBu.out _)
  clear hK K
  try simp only [Act.put, List.setIfInBounds_toArray, List.set_cons_zero, List.set_cons_succ]
  refine wpPart_ready (rs := [8]) (by kernel_rfl) (by simp) ?_
  refine AllPart.cons (o := { dst := some 20, op := Op.call { callee := Callee.builtin Builtin.append, args := #[Operand.tmp 16, Operand.tmp 19], argTypes := #[38, 38] }, type := 38, pos := "ship.go:72", after := #[{ on := 4, ground := Ground.data }, { on := 7, ground := Ground.data }, { on := 6, ground := Ground.chain }], guard := none }) rfl (by kernel_rfl) (fun K hK => ?_) AllPart.nil
  refine step_append_row (by rfl) _ _ 38 (by rfl) i0 (.slice none 0 0) 24 Try.underlying38 hii hz0' hz1' hz2' (by rfl) (by omega) (by rfl) (HW2u.out.alloc _) (bodies_one HW3.out) _ 1 [.slice A3 x.size c3] (by rfl) (SrcOk.block (blk_new u _) rfl (fun j u hu => by rw [Nat.zero_add]; simpa using hu) (by simp [Value.oneCell'])) (by have := HLen.out; unfold maxLen; omega) (by have := HLen.out; omega) ?_
  intro wv2 u2 hrow hgrow hat
  have hS1 := push_cells (blk_grown (blk_alloc HBu.out _) hgrow HNE.out)
  obtain ⟨A5, k5, rfl⟩ := hrow.form
  refine hK.out _ _ ?_ (fun hHeld => ?_)
  · first | exact hS1 | exact push_cells (blk_alloc HBu.out _)
  clear hK K
  try simp only [Act.put, List.setIfInBounds_toArray, List.set_cons_zero, List.set_cons_succ]
  clear hS1
  refine wpPart_ready (rs := [9]) (by kernel_rfl) (by simp) ?_
  refine AllPart.cons (o := { dst := some 21, op := Op.nilCheck (Operand.tmp 12), type := 0, pos := "ship.go:72", after := #[{ on := 0, ground := Ground.data }, { on := 0, ground := Ground.phase }, { on := 1, ground := Ground.phase }, { on := 2, ground := Ground.phase }, { on := 3, ground := Ground.phase }, { on := 4, ground := Ground.phase }, { on := 5, ground := Ground.phase }, { on := 6, ground := Ground.phase }, { on := 7, ground := Ground.phase }, { on := 8, ground := Ground.phase }], guard := none }) rfl (by kernel_rfl) (fun K hK => ?_) AllPart.nil
  go_simp
  refine hK.out _ _ ?_ (fun hHeld => ?_)
  · assumption
  clear hK K
  try simp only [Act.put, List.setIfInBounds_toArray, List.set_cons_zero, List.set_cons_succ]
  refine wpPart_take (i := 10) (oi := { dst := some 22, op := Op.fieldAddr 69 (Operand.tmp 21) 4, type := 0, pos := "ship.go:72", after := #[{ on := 9, ground := Ground.data }, { on := 0, ground := Ground.phase }, { on := 1, ground := Ground.phase }, { on := 2, ground := Ground.phase }, { on := 3, ground := Ground.phase }, { on := 4, ground := Ground.phase }, { on := 5, ground := Ground.phase }, { on := 6, ground := Ground.phase }, { on := 7, ground := Ground.phase }, { on := 8, ground := Ground.phase }], guard := none }) (v := ?_) rfl (by kernel_rfl) (by kernel_rfl) (by kernel_rfl) (by kernel_rfl) (by kernel_rfl) (fun _ _ _ h => h) (Or.inl ⟨by rfl, ?_⟩) (by assumption) ?_
  rotate_left
  · intro w hSw; (try dsimp only at hSw); go_simp <;> with_reducible rfl
  try simp only [Act.put, List.setIfInBounds_toArray, List.set_cons_zero, List.set_cons_succ]
  refine wpPart_ready (rs := [11]) (by kernel_rfl) (by simp) ?_
  refine AllPart.last (o := { dst := none, op := Op.store 38 (Operand.tmp 22) (Operand.tmp 20), type := 0, pos := "ship.go:72", after := #[{ on := 10, ground := Ground.data }, { on := 8, ground := Ground.data }, { on := 8, ground := Ground.chain }, { on := 0, ground := Ground.phase }, { on := 1, ground := Ground.phase }, { on := 2, ground := Ground.phase }, { on := 3, ground := Ground.phase }, { on := 4, ground := Ground.phase }, { on := 5, ground := Ground.phase }, { on := 6, ground := Ground.phase }, { on := 7, ground := Ground.phase }, { on := 8, ground := Ground.phase }], guard := none }) rfl (by kernel_rfl) (fun K hK => ?_) AllPart.nil
  have hc := hHeld.1
  have hf := hHeld.2
  go_simp
  refine hK.out _ _ ?_
  clear hK K
  try simp only [Act.put, List.setIfInBounds_toArray, List.set_cons_zero, List.set_cons_succ]
  clear hc hf
  refine wpPart_done (by kernel_rfl) ?_ _
  have hmid := push_mid (b := x) (blk_alloc HBu.out _) (HRu.out.alloc _) (HMu.out.alloc _) HW1.out (fun p hp => (HW3u.out p hp).keepT (KeepT.alloc [5] _ _) (by decide)) (HXu.out.keepT (KeepT.alloc [5] _ _) (by decide)) hgrow hrow
  have HMid := Lib.hid hmid
  have HAT : Hid ((Value.slice A5 (s.waits.length + 1) k5).ownBlock = (Value.slice A1 s.waits.length k1).ownBlock ∨ ∃ k, (Value.slice A5 (s.waits.length + 1) k5).ownBlock = some k ∧ w.heap.size ≤ k) := hat.imp id fun h => ⟨_, h, by have := HMu.out.size; simp; omega⟩
  have HFill := Lib.hid (fill_any _ B pb ov _ (s.put x) HMid.out.1 HF1.out hw)
  clear hmid hrow hgrow hat hHeld
  generalize u2.setCell ⟨B, 4, none⟩ (.slice A5 (s.waits.length + 1) k5) = W at *
  go_wp2_with fail
  refine HFill.out.mono ?_
  rintro e w9 ⟨v9, ov9, wv9, rfl, a1, a2, a3, a4, a5, a6⟩
  have HE := Lib.hid (push_end HMid.out.2 HAT.out a1 a2 a3 a4 a5 a6)
  clear a1 a2 a3 a4 a5 a6
  go_wp2
  go_ret2
  exact HE.out
end Go.Proofs.Ytcgfbbfepopinaa
