/-
  Rows that a slice value reads, wherever in their block they begin; appending whatever to them.
-/
import Derived.Test.YteicceikaecfcaaGrow
import Derived.Deep.AppendSrc
import Derived.Deep.Upon
namespace Go.Shoal
open Go Go.RowKit

def putAll : Array Value → Nat → List Value → Array Value
  | cur, _, [] => cur
  | cur, o, v :: r => putAll (cur.setIfInBounds o v) (o + 1) r
theorem size_putAll : ∀ (vs : List Value) (cur : Array Value) (o : Nat), (putAll cur o vs).size = cur.size
  | [], _, _ => rfl
  | v :: r, cur, o => by unfold putAll; rw [size_putAll r]; simp
theorem putAll_out : ∀ (vs : List Value) (cur : Array Value) (o i : Nat), (i < o ∨ o + vs.length ≤ i) → (putAll cur o vs)[i]? = cur[i]?
  | [], _, _, _, _ => rfl
  | v :: r, cur, o, i, h => by
    simp only [List.length_cons] at h
    unfold putAll
    rw [putAll_out r _ _ _ (by omega), Array.getElem?_setIfInBounds, if_neg (by omega)]
theorem putAll_in : ∀ (vs : List Value) (cur : Array Value) (o j : Nat), j < vs.length → o + vs.length ≤ cur.size → (putAll cur o vs)[o + j]? = vs[j]?
  | [], _, _, _, h, _ => absurd h (Nat.not_lt_zero _)
  | v :: r, cur, o, j, h, hs => by
    simp only [List.length_cons] at h hs
    unfold putAll
    cases j with
    | zero =>
      rw [putAll_out r _ _ _ (by omega), Nat.add_zero, Array.getElem?_setIfInBounds, if_pos rfl, if_pos (by omega)]
      rfl
    | succ j =>
      rw [show o + (j + 1) = (o + 1) + j by omega, putAll_in r _ _ _ (by omega) (by simp; omega)]
      rfl
theorem heap_setCells_block (b : Nat) (t : TypeId) (fr : Nat × Nat) : ∀ (vs : List Value) (o : Nat) (w : World) (cur : Array Value), w.heap[b]? = some (.cells cur t fr) → (w.setCells b o vs).heap[b]? = some (.cells (putAll cur o vs) t fr)
  | [], _, _, _, h => h
  | v :: r, o, w, cur, h => by
    unfold World.setCells putAll
    exact heap_setCells_block b t fr r (o + 1) _ _ (by simp [World.setCell, Array.getElem?_modify, h])
theorem grownBy_trans {a b c : World} {row : Option Nat} (h : a.grownBy b row) (k : b.grownBy c row) : a.grownBy c row :=
  ⟨k.os.trans h.os, k.tape.trans h.tape, k.output.trans h.output, Nat.le_trans h.size k.size, fun i hi hn => (k.block i (Nat.lt_of_lt_of_le hi h.size) hn).trans (h.block i hi hn)⟩
theorem grownBy_setCell (w : World) (p : Addr) (v : Value) : w.grownBy (w.setCell p v) (some p.block) :=
  ⟨rfl, rfl, rfl, by simp [World.setCell], fun k _ hk => Below.heap_setCell w p v k (fun e => hk (by rw [e]))⟩
theorem grownBy_setCells (b : Nat) : ∀ (vs : List Value) (o : Nat) (w : World), w.grownBy (w.setCells b o vs) (some b)
  | [], _, w => grownBy_refl w _
  | v :: r, o, w => grownBy_trans (grownBy_setCell w ⟨b, o, none⟩ v) (grownBy_setCells b r (o + 1) _)

/-- A slice value that reads n elements of 'size' cells each: nil, or a row in a block that is known. -/
def RowOf (w : World) (e : TypeId) (size : Nat) (v : Value) (n : Nat) (xs : List Value) : Prop :=
  xs.length = n * size ∧ ((v = .slice none 0 0 ∧ n = 0) ∨
    ∃ b o cap cur, v = .slice (some ⟨b, o, none⟩) n cap ∧ w.heap[b]? = some (.cells cur e (0, 0)) ∧ n ≤ cap ∧ cap ≤ maxLen ∧ o + cap * size ≤ cur.size ∧ ∀ j, j < n * size → cur[o + j]? = xs[j]?)
section
variable {P : Program} {w w' : World} {e : TypeId} {size n : Nat} {v : Value} {xs : List Value}
theorem RowOf.nil (w : World) (e : TypeId) (size : Nat) : RowOf w e size (.slice none 0 0) 0 [] := ⟨by simp, .inl ⟨rfl, rfl⟩⟩
theorem RowOf.of_own {base : Nat} (h : w.ownsRow base e size v n xs) : RowOf w e size v n xs := by
  obtain ⟨h1, h2⟩ := h
  refine ⟨h1, ?_⟩
  rcases h2 with h2 | ⟨g, cap, cur, rfl, _, hh, hc, hm, hs, ht⟩
  · exact .inl h2
  · refine .inr ⟨g, 0, cap, cur, rfl, hh, hc, hm, by omega, fun j hj => ?_⟩
    rw [Nat.zero_add, ← ht, List.getElem?_take, if_pos hj, Array.getElem?_toList]
theorem RowOf.keep (h : RowOf w e size v n xs) (hb : ∀ b, v.ownBlock = some b → w'.heap[b]? = w.heap[b]?) : RowOf w' e size v n xs := by
  obtain ⟨h1, h2⟩ := h
  refine ⟨h1, ?_⟩
  rcases h2 with h2 | ⟨b, o, cap, cur, rfl, hh, r⟩
  · exact .inl h2
  · exact .inr ⟨b, o, cap, cur, rfl, (hb b rfl).trans hh, r⟩
theorem RowOf.lt (h : RowOf w e size v n xs) {b : Nat} (hb : v.ownBlock = some b) : b < w.heap.size := by
  rcases h.2 with ⟨rfl, _⟩ | ⟨b', o, cap, cur, rfl, hh, r⟩
  · cases hb
  · cases hb; exact blk_lt hh
theorem RowOf.block (h : RowOf w e size v n xs) {b : Nat} (hb : v.ownBlock = some b) : ∃ cur, w.heap[b]? = some (.cells cur e (0, 0)) := by
  rcases h.2 with ⟨rfl, _⟩ | ⟨b', o, cap, cur, rfl, hh, r⟩
  · cases hb
  · cases hb; exact ⟨cur, hh⟩
theorem RowOf.mod {S : Nat → Prop} (h : RowOf w e size v n xs) (hm : Mod S w w') (hs : ∀ b, v.ownBlock = some b → ¬ S b) : RowOf w' e size v n xs :=
  h.keep fun b hb => hm.block b (h.lt hb) (hs b hb)
theorem RowOf.new (w : World) (cs : Array Value) (e : TypeId) (size n : Nat) (h : cs.size = n * size) (hn : n ≤ maxLen) : RowOf (w.alloc (.cells cs e)) e size (.slice (some ⟨w.heap.size, 0, none⟩) n n) n cs.toList :=
  ⟨by simpa using h, .inr ⟨_, 0, n, cs, rfl, heap_alloc_new w _, Nat.le_refl _, hn, by omega, fun j _ => by rw [Nat.zero_add, Array.getElem?_toList]⟩⟩
theorem RowOf.alloc (h : RowOf w e size v n xs) (o : Obj) : RowOf (w.alloc o) e size v n xs := h.keep fun b hb => Below.heap_alloc w o b (h.lt hb)
theorem RowOf.form (h : RowOf w e size v n xs) : ∃ A c, v = .slice A n c := by
  rcases h.2 with ⟨rfl, rfl⟩ | ⟨b, o, cap, cur, rfl, _⟩
  · exact ⟨none, 0, rfl⟩
  · exact ⟨_, _, rfl⟩
theorem RowOf.src (h : RowOf w e size v n xs) (h1 : ∀ u ∈ xs, u.oneCell' = true) : SrcOk w v n size xs := by
  obtain ⟨hl, h2⟩ := h
  rcases h2 with ⟨rfl, rfl⟩ | ⟨b, o, cap, cur, rfl, hh, hc, hm, hs, hx⟩
  · exact .inl ⟨rfl, rfl, List.eq_nil_of_length_eq_zero (by simpa using hl)⟩
  · refine .inr ⟨_, cap, rfl, hl, fun j u hu => ?_, h1⟩
    rw [Addr.add_lit, blk_cell hh, hx j (by rw [← hl]; exact (List.getElem?_eq_some_iff.1 hu).1)]
    exact hu
/-- The cells of a row. -/
theorem RowOf.cell {b o cap : Nat} (h : RowOf w e size (.slice (some ⟨b, o, none⟩) n cap) n xs) (j : Nat) (hj : j < n * size) : w.cell? ⟨b, o + j, none⟩ = xs[j]? := by
  rcases h.2 with ⟨h, _⟩ | ⟨b', o', cap', cur, he, hh, hc, hm, hs, hx⟩
  · cases h
  · cases he
    rw [blk_cell hh, hx j hj]
theorem RowOf.at (h : RowOf w e size v n xs) (hn : 0 < n) : ∃ b o cap cur, v = .slice (some ⟨b, o, none⟩) n cap ∧ w.heap[b]? = some (.cells cur e (0, 0)) ∧ n ≤ cap ∧ ∀ j, j < n * size → cur[o + j]? = xs[j]? := by
  rcases h.2 with ⟨_, h⟩ | ⟨b, o, cap, cur, rfl, hh, hc, hm, hs, hx⟩
  · omega
  · exact ⟨b, o, cap, cur, rfl, hh, hc, hx⟩
/-- x[1:]: the address stays where the capacity is spent. -/
theorem RowOf.tail {b o m c : Nat} (h : RowOf w e size (.slice (some ⟨b, o, none⟩) (m + 1) (c + 1)) (m + 1) xs) : RowOf w e size (.slice (some ⟨b, if c = 0 then o else o + size, none⟩) m c) m (xs.drop size) := by
  obtain ⟨hl, h2⟩ := h
  rcases h2 with ⟨h, _⟩ | ⟨b', o', cap', cur, he, hh, hc, hm, hs, hx⟩
  · cases h
  · cases he
    have e1 : (m + 1) * size = m * size + size := by rw [Nat.add_mul, Nat.one_mul]
    have e2 : (c + 1) * size = c * size + size := by rw [Nat.add_mul, Nat.one_mul]
    refine ⟨by rw [List.length_drop, hl]; omega, .inr ⟨b, _, c, cur, rfl, hh, by omega, by omega, ?_, fun j hj => ?_⟩⟩
    · split <;> omega
    · by_cases hc0 : c = 0
      · subst hc0
        have : m = 0 := by omega
        subst this
        omega
      · rw [if_neg hc0, List.getElem?_drop, ← hx (size + j) (by omega), Nat.add_assoc]
/-- x[k:]. -/
theorem RowOf.drop {b o m c : Nat} (k : Nat) (h : RowOf w e size (.slice (some ⟨b, o, none⟩) m c) m xs) (hk : k ≤ m) : RowOf w e size (.slice (some ⟨b, if c = k then o else o + k * size, none⟩) (m - k) (c - k)) (m - k) (xs.drop (k * size)) := by
  obtain ⟨hl, h2⟩ := h
  rcases h2 with ⟨h, _⟩ | ⟨b', o', cap', cur, he, hh, hc, hm, hs, hx⟩
  · cases h
  · cases he
    have e1 : (m - k) * size = m * size - k * size := Nat.mul_sub_right_distrib m k size
    have e2 : (c - k) * size = c * size - k * size := Nat.mul_sub_right_distrib c k size
    have e3 : k * size ≤ m * size := Nat.mul_le_mul_right _ hk
    have e4 : m * size ≤ c * size := Nat.mul_le_mul_right _ hc
    refine ⟨by rw [List.length_drop, hl, e1], .inr ⟨b, _, c - k, cur, rfl, hh, by omega, by omega, ?_, fun j hj => ?_⟩⟩
    · split <;> omega
    · by_cases hc0 : c = k
      · subst hc0
        have : m = c := by omega
        subst this
        omega
      · rw [if_neg hc0, List.getElem?_drop, ← hx (k * size + j) (by omega), Nat.add_assoc]
theorem run_append_row (t ty : TypeId) (i : TypeInfo) (z : Value) (bytes : Nat) (ht : P.underlying t = some (.slice e)) (hi : P.info? e = some i) (hz : i.zero = some z)
    (hsize : i.size = size) (hby : i.bytes = bytes) (hzs : z.cells.size = size) (hsz : 0 < size) (h : RowOf w e size v n xs) (h0 : ∀ u ∈ xs, u.oneCell' = true)
    (x : Value) (m : Nat) (news : List Value) (hs : SrcOk w x m size news) (h63 : n + m ≤ maxLen) (hbytes : (n + m) * bytes ≤ 140737488355328) :
    ∃ v' w', (Builtin.append_ #[t, t] ty #[v, x]).run P w = .ok v' w' ∧ RowOf w' e size v' (n + m) (xs ++ news) ∧ w.grownBy w' v.ownBlock ∧ (v'.ownBlock = v.ownBlock ∨ v'.ownBlock = some w.heap.size) := by
  have hsmall : n + m ≤ 9223372036854775807 := by simp only [maxLen] at h63; omega
  have hsrc : Src P i.size t x m news w := by
    subst hsize
    rcases hs with ⟨rfl, rfl, rfl⟩ | ⟨a, c, rfl, hl, hn, h1⟩
    · exact Src.ofNil w ht 0
    · exact Src.ofSlice w ht a m c news hl hn h1
  have hnl : news.length = m * size := by
    rcases hs with ⟨rfl, rfl, rfl⟩ | ⟨a, c, rfl, hl, hn, h1⟩
    · simp
    · exact hl
  obtain ⟨hl, h2⟩ := h
  rcases h2 with ⟨rfl, rfl⟩ | ⟨b, o, cap, cur, rfl, hh, hc, hm, hcs, hx⟩
  · have hx0 : xs = [] := List.eq_nil_of_length_eq_zero (by simpa using hl)
    subst hx0
    obtain ⟨v', w', r1, r2, r3, r4⟩ := run_append_src (P := P) (w := w) t ty 0 e i z size bytes ht hi hz hsize hby hzs hsz _ 0 [] (World.ownsRow_nil _ _ _ _) x m news hs h63 hbytes (Nat.zero_le _)
    exact ⟨v', w', r1, RowOf.of_own r2, r3, r4⟩
  · subst hsize
    have hlen : (xs ++ news).length = (n + m) * i.size := by rw [List.length_append, hl, hnl, Nat.add_mul]
    by_cases hroom : n + m ≤ cap
    · have hfit : n * i.size + m * i.size ≤ cap * i.size := by rw [← Nat.add_mul]; exact Nat.mul_le_mul_right _ hroom
      have hr := run_append_room_src (P := P) w t t ty e i ht hi b o n cap x m news hsrc hroom
        (fun j hj => by rw [blk_cell hh, Array.getElem?_eq_getElem (by omega)]; rfl) (fun j _ => blk_frozen hh _)
      refine ⟨_, _, hr, ⟨hlen, .inr ⟨b, o, cap, _, rfl, heap_setCells_block b e (0, 0) news _ w cur hh, hroom, hm, by rw [size_putAll]; exact hcs, fun j hj => ?_⟩⟩, grownBy_setCells b news _ w, .inl rfl⟩
      by_cases hj1 : j < n * i.size
      · rw [putAll_out _ _ _ _ (by omega), hx j hj1, List.getElem?_append_left (by omega)]
      · obtain ⟨q, rfl⟩ : ∃ q, j = n * i.size + q := ⟨j - n * i.size, by omega⟩
        rw [Nat.add_mul] at hj
        rw [← Nat.add_assoc, putAll_in news cur _ q (by omega) (by omega), List.getElem?_append_right (by omega), hl, Nat.add_sub_cancel_left]
    · have hold : (Builtin.firstCells i.size n (.slice (some ⟨b, o, none⟩) n cap)).run P w.drew = .ok xs.toArray w.drew :=
        run_firstCells_some w.drew i.size n ⟨b, o, none⟩ n cap xs hl (fun j u hu => by
          rw [Addr.add_lit, World.cell?_drew, blk_cell hh, hx j (by rw [← hl]; exact (List.getElem?_eq_some_iff.1 hu).1)]
          exact hu)
      have hr := run_append_grow_src (P := P) w t t ty e i z ht hi hz (some ⟨b, o, none⟩) n cap xs hold x m news hsrc (by omega) (by omega) (growslice_fits (by omega) (by rw [hby]; exact hbytes))
      have hge := grownCap_ge w (n + m) cap e
      have hcm : grownCap w (n + m) cap e ≤ maxLen := grownCap_le_maxLen w (n + m) cap e h63
      refine ⟨_, _, hr, ⟨hlen, .inr ⟨w.heap.size, 0, grownCap w (n + m) cap e, _, rfl, heap_alloc_new w.drew _, hge, hcm, ?_, fun j hj => ?_⟩⟩, ⟨rfl, rfl, rfl, by simp, fun k hk _ => Below.heap_alloc w.drew _ k hk⟩, .inr rfl⟩
      · simp only [Array.size_append, List.size_toArray, size_zeroCells, hzs, hlen, ← Nat.add_mul]
        rw [Nat.zero_add, show n + m + (grownCap w (n + m) cap e - (n + m)) = grownCap w (n + m) cap e by omega]
        exact Nat.le_refl _
      · rw [Nat.zero_add, Array.getElem?_append_left (by simpa [hlen] using hj), List.getElem?_toArray]
theorem wp_append_row {o : Oper} {a : Act} {K : Act → World → Prop} {Q : Exit → Act → World → Prop} (s x : Operand) (t : TypeId)
    (ho : o.op = .call { callee := .builtin .append, args := #[s, x], argTypes := #[t, t] })
    (i : TypeInfo) (z : Value) (bytes : Nat) (ht : P.underlying t = some (.slice e)) (hi : P.info? e = some i) (hz : i.zero = some z)
    (hsize : i.size = size) (hby : i.bytes = bytes) (hzs : z.cells.size = size) (hsz : 0 < size) (hs : a.eval s = v) (h : RowOf w e size v n xs) (h0 : ∀ u ∈ xs, u.oneCell' = true)
    (y : Value) (m : Nat) (news : List Value) (hx : a.eval x = y) (hsrc : SrcOk w y m size news) (h63 : n + m ≤ maxLen) (hbytes : (n + m) * bytes ≤ 140737488355328)
    (hk : ∀ v' w', RowOf w' e size v' (n + m) (xs ++ news) → w.grownBy w' v.ownBlock → (v'.ownBlock = v.ownBlock ∨ v'.ownBlock = some w.heap.size) → K (a.put o.dst v') w') : o.wp P a w K Q := by
  obtain ⟨v', w', hr, h2, h3, h4⟩ := run_append_row (P := P) (w := w) t o.type i z bytes ht hi hz hsize hby hzs hsz h h0 y m news hsrc h63 hbytes
  unfold Oper.wp execOp
  simp only [ho, resolve, invoke, builtin, Sem.run_bind, Sem.run_pure, Result.andThen_ok, List.map_toArray, List.map_cons, List.map_nil, hs, hx, hr]
  exact hk v' w' h2 h3 h4
theorem wpList_append_row {ops : Array Oper} {rest : List Oper} {o : Oper} {a : Act} {Q : Exit → Act → World → Prop} (hgd : o.guard = none) (s x : Operand) (t : TypeId)
    (ho : o.op = .call { callee := .builtin .append, args := #[s, x], argTypes := #[t, t] })
    (i : TypeInfo) (z : Value) (bytes : Nat) (ht : P.underlying t = some (.slice e)) (hi : P.info? e = some i) (hz : i.zero = some z)
    (hsize : i.size = size) (hby : i.bytes = bytes) (hzs : z.cells.size = size) (hsz : 0 < size) (hs : a.eval s = v) (h : RowOf w e size v n xs) (h0 : ∀ u ∈ xs, u.oneCell' = true)
    (y : Value) (m : Nat) (news : List Value) (hx : a.eval x = y) (hsrc : SrcOk w y m size news) (h63 : n + m ≤ maxLen) (hbytes : (n + m) * bytes ≤ 140737488355328)
    (hk : ∀ v' w', RowOf w' e size v' (n + m) (xs ++ news) → w.grownBy w' v.ownBlock → (v'.ownBlock = v.ownBlock ∨ v'.ownBlock = some w.heap.size) → wpList P ops Q rest (a.put o.dst v') w') : wpList P ops Q (o :: rest) a w :=
  wpList_plain hgd fun _ hK => wp_append_row s x t ho i z bytes ht hi hz hsize hby hzs hsz hs h h0 y m news hx hsrc h63 hbytes fun v' w' h2 h3 h4 => hK _ _ (hk v' w' h2 h3 h4)
theorem step_append_row {ops : Array Oper} {o : Oper} {a : Act} {K : Act → World → Prop} {Q : Exit → Act → World → Prop} {E : Prop} (hgd : o.guard = none) (s x : Operand) (t : TypeId)
    (ho : o.op = .call { callee := .builtin .append, args := #[s, x], argTypes := #[t, t] })
    (i : TypeInfo) (z : Value) (bytes : Nat) (ht : P.underlying t = some (.slice e)) (hi : P.info? e = some i) (hz : i.zero = some z)
    (hsize : i.size = size) (hby : i.bytes = bytes) (hzs : z.cells.size = size) (hsz : 0 < size) (hs : a.eval s = v) (h : RowOf w e size v n xs) (h0 : ∀ u ∈ xs, u.oneCell' = true)
    (y : Value) (m : Nat) (news : List Value) (hx : a.eval x = y) (hsrc : SrcOk w y m size news) (h63 : n + m ≤ maxLen) (hbytes : (n + m) * bytes ≤ 140737488355328)
    (hk : ∀ v' w', RowOf w' e size v' (n + m) (xs ++ news) → w.grownBy w' v.ownBlock → (v'.ownBlock = v.ownBlock ∨ v'.ownBlock = some w.heap.size) → K (a.put o.dst v') w') :
    if Region.wanted o (yielded ops a.tmps) = true then Oper.wp P o a w K Q else E := by
  have hw : Region.wanted o (yielded ops a.tmps) = true := by simp [Region.wanted, hgd]
  rw [if_pos hw]
  exact wp_append_row s x t ho i z bytes ht hi hz hsize hby hzs hsz hs h h0 y m news hx hsrc h63 hbytes hk
end
end Go.Shoal
