/-
  Package past: the reference's Send.
-/
import Derived.Test.YteicceikaecfcaaPastRd
namespace Go.Proofs.Yteicceikaecfcaa
open Go.RowKit Go.Shoal Go.Maps

theorem Try.infoRSent : (Try.prog.info? 57).map (fun i => (i.zero, i.size, i.bytes)) = some (some (.agg #[.int .i64 0, .int .u64 0, .int .u64 0, .slice none 0 0]), 4, 48) := by kernel_rfl
theorem bool_one (L : List Bool) : ∀ u ∈ L.map Value.bool, u.oneCell' = true := by
  intro u hu
  obtain ⟨x, _, rfl⟩ := List.mem_map.1 hu
  rfl
theorem src_fourR (w : World) (a b c d : Value) (t : Nat) (h : ∀ u ∈ [a, b, c, d], u.oneCell' = true) : SrcOk (w.alloc (.cells #[a, b, c, d] t)) (.slice (some ⟨w.heap.size, 0, none⟩) 1 1) 1 4 [a, b, c, d] :=
  SrcOk.block (blk_new w _) rfl (fun j u hu => by rw [Nat.zero_add]; simpa using hu) h
/-- Cells that the regions read. -/
theorem rs_cells {W : World} {R kR f t t' : Nat} {a b c d v : Value} {cs : Array Value} (h : W.heap[R]? = some (.cells #[a, b, c, d] t (0, 0))) (hk : W.heap[kR]? = some (.cells cs t' (0, 0))) (hv : cs[f]? = some v) :
    W.cell? ⟨R, 1, none⟩ = some b ∧ W.frozen? ⟨R, 1, none⟩ = false ∧ W.cell? ⟨R, 2, none⟩ = some c ∧ W.cell? ⟨kR, f, none⟩ = some v :=
  ⟨(blk_cell h 1).trans rfl, blk_frozen h 1, (blk_cell h 2).trans rfl, (blk_cell hk f).trans hv⟩
theorem rk_cells {W : World} {R kR f t t' : Nat} {a b c d v : Value} {cs : Array Value} (h : W.heap[R]? = some (.cells #[a, b, c, d] t (0, 0))) (hk : W.heap[kR]? = some (.cells cs t' (0, 0))) (hv : cs[f]? = some v) :
    W.cell? ⟨R, 2, none⟩ = some c ∧ W.cell? ⟨kR, f, none⟩ = some v ∧ W.frozen? ⟨kR, f, none⟩ = false :=
  ⟨(blk_cell h 2).trans rfl, (blk_cell hk f).trans hv, blk_frozen hk f⟩
theorem RAt.ms_at {w : World} {R : Nat} {r : Re} {s : Pa} (h : RAt w R r s) (hl : r.rows.length = s.all.length) : RowOf w 57 4 r.mv s.all.length (r.rows.flatMap rcells) := by
  rw [← hl]
  exact h.ms
theorem Bits.form {w : World} {v : Value} {f : Nat → Bool} (h : Bits w v f) : ∃ A n c, v = .slice A n c := by
  obtain ⟨L, hr, _, _⟩ := h
  obtain ⟨A, c, e⟩ := RowOf.form hr
  exact ⟨A, _, c, e⟩
theorem Bits.one {w : World} {v : Value} {f : Nat → Bool} (h : Bits w v f) : v.oneCell' = true := by
  obtain ⟨L, hr, _, _⟩ := h
  obtain ⟨A, c, rfl⟩ := RowOf.form hr
  rfl
theorem rcells_ones {w : World} {R : Nat} {r : Re} {s : Pa} (h : RAt w R r s) : ∀ u ∈ r.rows.flatMap rcells, u.oneCell' = true := by
  intro u hu
  obtain ⟨x, hx, hm⟩ := List.mem_flatMap.1 hu
  unfold rcells at hm
  simp only [List.mem_cons, List.not_mem_nil, or_false] at hm
  rcases hm with rfl | rfl | rfl | rfl
  · rfl
  · rfl
  · rfl
  · exact (h.ah x hx).one
/-- Behind the first store. -/
theorem rmore_end {w u u2 : World} {R : Nat} {r : Re} {s : Pa} {m : Ms} {v mv2 : Value} (h : RAt w R r s) (hm : Mod (fun _ => False) w u) (hv : Bits u v m.ahead)
    (hrow : RowOf u2 57 4 mv2 (r.rows.length + 1) (r.rows.flatMap rcells ++ rcells (m, v))) (hg : u.grownBy u2 r.mv.ownBlock) (hat : mv2.ownBlock = r.mv.ownBlock ∨ mv2.ownBlock = some u.heap.size) :
    RAt (u2.setCell ⟨R, 1, none⟩ mv2) R { r with rows := r.rows ++ [(m, v)], mv := mv2 } { s with all := s.all ++ [m] } ∧ Mod (fun b => b = R ∨ r.mv.ownBlock = some b) w (u2.setCell ⟨R, 1, none⟩ mv2) ∧ ∀ q, mv2.ownBlock = some q → r.mv.ownBlock = some q ∨ w.heap.size ≤ q := by
  have hu := h.same hm
  have hgm : Mod (fun b => r.mv.ownBlock = some b) u u2 := Mod.of_grown hg (fun k hk _ => hk)
  have hne : ∀ b cs t, u.heap[b]? = some (.cells cs t (0, 0)) → t ≠ 57 → ¬ r.mv.ownBlock = some b := fun b cs t hb ht hx => row_ne hu.ms hb (Ne.symm ht) _ hx rfl
  have ht2 := hgm.blk hu.top (hne _ _ _ hu.top (by decide))
  have m3 : Mod (fun b => b = R ∨ r.mv.ownBlock = some b) w (u2.setCell ⟨R, 1, none⟩ mv2) := ((hm.mono (fun _ _ x => x.elim)).trans (hgm.mono (fun _ _ x => .inr x))).set (p := ⟨R, 1, none⟩) (fun _ => .inl rfl) _
  refine ⟨h.more m3 ((blk_set ht2 1 mv2).trans rfl) (hrow.mod (mod_one u2 R 1 mv2) (fun b hb e => ?_)) ((hv.mod hgm (fun b hb => ?_)).mod (mod_one u2 R 1 mv2) (fun b hb e => ?_)), m3, fun q hq => ?_⟩
  · exact row_ne hrow ht2 (by decide) _ hb e
  · obtain ⟨cs, hc⟩ := hv.block hb
    exact hne _ _ _ hc (by decide)
  · obtain ⟨cs, hc⟩ := hv.block hb
    exact blk_ne hc hu.top (by decide) e
  · rcases hat with e | e
    · exact .inl (by rw [← e]; exact hq)
    · rw [e] at hq
      have := Option.some.inj hq
      have := hm.size
      exact .inr (by omega)
/-- What Send leaves. -/
def RSent (w : World) (R : Nat) (r : Re) (s' : Pa) (w' : World) : Prop := ∃ r', RAt w' R r' s' ∧ Mod (RMut R r) w w' ∧ ∀ b, RMut R r' b → RMut R r b ∨ w.heap.size ≤ b
set_option maxRecDepth 100000 in
set_option maxHeartbeats 16000000 in
theorem rsend_any (R : Nat) (r : Re) (s : Pa) (f t M : Nat) (av : Value) (w : World) (h : RAt w R r s) (hf : f < s.n) (hn : s.n ≤ 16) (hl : s.all.length < 1000) :
    Calls Try.prog 23 #[.pointer (some ⟨R, 0, none⟩), .int .i64 f, .int .u64 t] w fun e w' => e = .returned (.int .i64 (s.all.length : Int)) ∧ RSent w R r (s.sent f t M av) w' := by
  obtain ⟨i0, hii, hz0, hz1, hz2⟩ := info_parts Try.infoRSent
  obtain ⟨i1, hii1, hy0, hy1, hy2⟩ := info_parts info_bool
  obtain ⟨A, c, hmv⟩ := h.form
  obtain ⟨rows, mv, kR, tR, kv, gv⟩ := r
  obtain rfl : mv = _ := hmv
  obtain ⟨L, hbr, hbl, hbf⟩ := h.ks f hf
  obtain ⟨A2, c2, hkv⟩ := RowOf.form hbr
  have hkc : ((List.range s.n).map kv).toArray[f]? = some (.slice A2 L.length c2) := by rw [row_at _ hf]; exact congrArg some hkv
  have HKV := Lib.hid hkc
  have HKV0 := Lib.hid hkv
  have HTOP : Hid (w.heap[R]? = some (.cells #[.int .i64 (s.n : Int), .slice A s.all.length c, .slice (some ⟨kR, 0, none⟩) s.n s.n, .slice (some ⟨tR, 0, none⟩) s.n s.n] 62 (0, 0))) := h.top
  have HKN : Hid (w.heap[kR]? = some (.cells ((List.range s.n).map kv).toArray 55 (0, 0))) := h.kn
  have HBT : Hid (RowOf w 4 1 (.slice A2 L.length c2) L.length (L.map Value.bool)) := by rw [← hkv]; exact hbr
  have HLF := Lib.hid hbf
  have HLL9 := Lib.hid hbl
  have HRL : Hid (rows.length = s.all.length) := by show _ = _; rw [← h.fs, List.length_map]
  have HR := Lib.hid h
  have HL := Lib.hid hl
  obtain ⟨ll, hll⟩ : ∃ ll, ll = L.length := ⟨_, rfl⟩
  rw [← hll] at HKV HBT HKV0
  have HLL : Hid (ll ≤ 1000) := by rw [hll]; exact hbl
  have HL0 := Lib.hid hll
  have c1 := (blk_cell HTOP.out 1).trans rfl
  have hp0 : (0 : Int) ≤ (f : Int) := by omega
  have hp1 : (f : Int) < (s.n : Int) := by omega
  have hnb : (s.n : Int) ≤ 16 := by omega
  have hlb : (s.all.length : Int) < 1000 := by omega
  clear h hbr hbl hbf hkv hkc hll hl
  go_enter Try.func23, Try.ntmps23
  go_wp2
  go_loop [7, 8] (fun x i => ∃ j : Nat, j ≤ s.all.length ∧ i = .int .i64 j ∧ x = .int .u64 ((cnt (s.all.take j) f : Int) + 1)) (fun _ i => s.all.length - (intOf i).toNat)
  case atStart => exact ⟨0, Nat.zero_le _, rfl, rfl⟩
  case round =>
    obtain ⟨j, hj, rfl, rfl⟩ := hrel
    by_cases hlt : j < s.all.length
    · obtain ⟨m, hm⟩ : ∃ m, s.all[j]? = some m := ⟨_, List.getElem?_eq_getElem hlt⟩
      obtain ⟨b, o, cap, v, e, d0, -, -, -, -⟩ := HR.out.elem hm
      have e : Value.slice A s.all.length c = .slice (some ⟨b, o, none⟩) s.all.length cap := e
      cases e
      have hi0 : (0 : Int) ≤ (j : Int) := by omega
      have hi1 : (j : Int) < (s.all.length : Int) := by omega
      have tj : decide (j < s.all.length) = true := decide_eq_true hlt
      have hjb : (j : Int) < 1000 := by omega
      have hcb : (cnt (s.all.take j) f : Int) ≤ 1000 := by
        have h1 : cnt (s.all.take j) f ≤ (s.all.take j).length := List.length_filter_le _ _
        rw [List.length_take] at h1
        omega
      have HC := Lib.hid (cnt_take_succ hm f)
      generalize cnt (s.all.take j) f = C1 at *
      by_cases hmf : m.frm = f
      · have t1 : (m.frm == f) = true := beq_iff_eq.2 hmf
        have t2 : ((m.frm : Int) == (f : Int)) = true := beq_iff_eq.2 (by omega)
        have HC2 : Hid (cnt (s.all.take (j + 1)) f = C1 + 1) := by show _ = _; rw [HC.out, t1]; rfl
        clear hm hlt hmf HC
        go_wp2
        go_round
        case rel => exact ⟨j + 1, by omega, by go_num, by rw [HC2.out]; go_num⟩
        case measure => simp [intOf]; omega
      · have t1 : (m.frm == f) = false := beq_eq_false_iff_ne.2 hmf
        have t2 : ((m.frm : Int) == (f : Int)) = false := beq_eq_false_iff_ne.2 (by omega)
        have HC2 : Hid (cnt (s.all.take (j + 1)) f = C1) := by show _ = _; rw [HC.out, t1]; rfl
        clear hm hlt hmf HC
        go_wp2
        go_round
        case rel => exact ⟨j + 1, by omega, by go_num, by rw [HC2.out]⟩
        case measure => simp [intOf]; omega
    · obtain rfl : j = s.all.length := by omega
      have ti : decide (s.all.length < s.all.length) = false := decide_eq_false (by omega)
      rw [List.take_length]
      obtain ⟨cc, hcc⟩ : ∃ cc, cc = cnt s.all f := ⟨_, rfl⟩
      rw [← hcc]
      have HCC := Lib.hid hcc
      clear hcc hlt
      go_wp2_with fail
      refine wp_region_part (S := fun w' => w'.cell? ⟨R, 1, none⟩ = some (.slice A s.all.length c) ∧ w'.frozen? ⟨R, 1, none⟩ = false ∧ w'.cell? ⟨R, 2, none⟩ = some (.slice (some ⟨kR, 0, none⟩) s.n s.n) ∧ w'.cell? ⟨kR, f, none⟩ = some (.slice A2 ll c2)) [22] (by kernel_rfl) ?_ (fun hHeld => ?_)
      · exact rs_cells (W := w.drew) HTOP.out HKN.out HKV.out
      have HU0 : Hid (Mod (fun _ => False) w w.drew) := (Mod.refl _ _).drew
      change Hid (w.drew.heap[R]? = _) at HTOP
      change Hid (w.drew.heap[kR]? = _) at HKN
      change Hid (RowOf w.drew _ _ _ _ _) at HBT
      generalize w.drew = u0 at *
      have HSZ : Hid (w.heap.size ≤ u0.heap.size) := HU0.out.size
      have HRZ : Hid (R < u0.heap.size) := blk_lt HTOP.out
      have HKZ : Hid (kR < u0.heap.size) := blk_lt HKN.out
      have HNE1 : Hid (∀ q, (Value.slice (some ⟨u0.heap.size, 0, none⟩) 0 0).ownBlock = some q → R ≠ q) := fun q hq => by cases hq; exact Nat.ne_of_lt HRZ.out
      have HNE2 : Hid (∀ q, (Value.slice (some ⟨u0.heap.size, 0, none⟩) 0 0).ownBlock = some q → kR ≠ q) := fun q hq => by cases hq; exact Nat.ne_of_lt HKZ.out
      have HNE3 : Hid (∀ q, (Value.slice (some ⟨u0.heap.size, 0, none⟩) 0 0).ownBlock = some q → w.heap.size ≤ q) := fun q hq => by cases hq; exact HSZ.out
      have HNM1 : Hid (∀ q, (Value.slice A s.all.length c).ownBlock = some q → R ≠ q) := fun q hq => (row_ne HR.out.ms HR.out.top (by decide) _ hq).symm
      have HNM2 : Hid (∀ q, (Value.slice A s.all.length c).ownBlock = some q → kR ≠ q) := fun q hq => (row_ne HR.out.ms HR.out.kn (by decide) _ hq).symm
      have HE1 : Hid (RowOf (u0.alloc (Obj.cells #[] 4)) 4 1 (.slice (some ⟨u0.heap.size, 0, none⟩) 0 0) 0 []) := RowOf.new u0 #[] 4 1 0 rfl (Nat.zero_le _)
      refine wpPart_take (i := 0) (oi := { dst := some 36, op := Op.move (Operand.tmp 0), type := 50, pos := "ref.go:330", after := #[], guard := none }) (v := ?_) rfl (by kernel_rfl) (by kernel_rfl) (by kernel_rfl) (by kernel_rfl) (by kernel_rfl) (fun _ _ _ h => h) (Or.inl ⟨by rfl, ?_⟩) (by assumption) ?_
      rotate_left
      · intro w hSw; (try dsimp only at hSw); go_simp <;> with_reducible rfl
      try simp only [Act.put, List.setIfInBounds_toArray, List.set_cons_zero, List.set_cons_succ]
      refine wpPart_take (i := 1) (oi := { dst := some 37, op := Op.move (Operand.tmp 0), type := 50, pos := "ref.go:330", after := #[], guard := none }) (v := ?_) rfl (by kernel_rfl) (by kernel_rfl) (by kernel_rfl) (by kernel_rfl) (by kernel_rfl) (fun _ _ _ h => h) (Or.inl ⟨by rfl, ?_⟩) (by assumption) ?_
      rotate_left
      · intro w hSw; (try dsimp only at hSw); go_simp <;> with_reducible rfl
      try simp only [Act.put, List.setIfInBounds_toArray, List.set_cons_zero, List.set_cons_succ]
      refine wpPart_take (i := 2) (oi := { dst := some 38, op := Op.nilCheck (Operand.tmp 37), type := 0, pos := "ref.go:330", after := #[{ on := 1, ground := Ground.data }], guard := none }) (v := ?_) rfl (by kernel_rfl) (by kernel_rfl) (by kernel_rfl) (by kernel_rfl) (by kernel_rfl) (fun _ _ _ h => h) (Or.inl ⟨by rfl, ?_⟩) (by assumption) ?_
      rotate_left
      · intro w hSw; (try dsimp only at hSw); go_simp <;> with_reducible rfl
      try simp only [Act.put, List.setIfInBounds_toArray, List.set_cons_zero, List.set_cons_succ]
      refine wpPart_take (i := 3) (oi := { dst := some 39, op := Op.fieldAddr 62 (Operand.tmp 38) 1, type := 0, pos := "ref.go:330", after := #[{ on := 2, ground := Ground.data }], guard := none }) (v := ?_) rfl (by kernel_rfl) (by kernel_rfl) (by kernel_rfl) (by kernel_rfl) (by kernel_rfl) (fun _ _ _ h => h) (Or.inl ⟨by rfl, ?_⟩) (by assumption) ?_
      rotate_left
      · intro w hSw; (try dsimp only at hSw); go_simp <;> with_reducible rfl
      try simp only [Act.put, List.setIfInBounds_toArray, List.set_cons_zero, List.set_cons_succ]
      refine wpPart_take (i := 4) (oi := { dst := some 40, op := Op.load 58 (Operand.tmp 39), type := 58, pos := "ref.go:330", after := #[{ on := 3, ground := Ground.data }], guard := none }) (v := ?_) rfl (by kernel_rfl) (by kernel_rfl) (by kernel_rfl) (by kernel_rfl) (by kernel_rfl) (fun _ _ _ h => h) (Or.inl ⟨by rfl, ?_⟩) (by assumption) ?_
      rotate_left
      · intro w hSw; (try dsimp only at hSw); go_simp <;> with_reducible rfl
      try simp only [Act.put, List.setIfInBounds_toArray, List.set_cons_zero, List.set_cons_succ]
      refine wpPart_take (i := 5) (oi := { dst := some 41, op := Op.move (Operand.tmp 1), type := 3, pos := "ref.go:330", after := #[], guard := none }) (v := ?_) rfl (by kernel_rfl) (by kernel_rfl) (by kernel_rfl) (by kernel_rfl) (by kernel_rfl) (fun _ _ _ h => h) (Or.inl ⟨by rfl, ?_⟩) (by assumption) ?_
      rotate_left
      · intro w hSw; (try dsimp only at hSw); go_simp <;> with_reducible rfl
      try simp only [Act.put, List.setIfInBounds_toArray, List.set_cons_zero, List.set_cons_succ]
      refine wpPart_take (i := 6) (oi := { dst := some 42, op := Op.move (Operand.tmp 7), type := 30, pos := "ref.go:330", after := #[], guard := none }) (v := ?_) rfl (by kernel_rfl) (by kernel_rfl) (by kernel_rfl) (by kernel_rfl) (by kernel_rfl) (fun _ _ _ h => h) (Or.inl ⟨by rfl, ?_⟩) (by assumption) ?_
      rotate_left
      · intro w hSw; (try dsimp only at hSw); go_simp <;> with_reducible rfl
      try simp only [Act.put, List.setIfInBounds_toArray, List.set_cons_zero, List.set_cons_succ]
      refine wpPart_take (i := 7) (oi := { dst := some 43, op := Op.move (Operand.tmp 2), type := 30, pos := "ref.go:330", after := #[], guard := none }) (v := ?_) rfl (by kernel_rfl) (by kernel_rfl) (by kernel_rfl) (by kernel_rfl) (by kernel_rfl) (fun _ _ _ h => h) (Or.inl ⟨by rfl, ?_⟩) (by assumption) ?_
      rotate_left
      · intro w hSw; (try dsimp only at hSw); go_simp <;> with_reducible rfl
      try simp only [Act.put, List.setIfInBounds_toArray, List.set_cons_zero, List.set_cons_succ]
      refine wpPart_take (i := 9) (oi := { dst := some 45, op := Op.move (Operand.tmp 0), type := 50, pos := "ref.go:330", after := #[], guard := none }) (v := ?_) rfl (by kernel_rfl) (by kernel_rfl) (by kernel_rfl) (by kernel_rfl) (by kernel_rfl) (fun _ _ _ h => h) (Or.inl ⟨by rfl, ?_⟩) (by assumption) ?_
      rotate_left
      · intro w hSw; (try dsimp only at hSw); go_simp <;> with_reducible rfl
      try simp only [Act.put, List.setIfInBounds_toArray, List.set_cons_zero, List.set_cons_succ]
      refine wpPart_take (i := 10) (oi := { dst := some 46, op := Op.nilCheck (Operand.tmp 45), type := 0, pos := "ref.go:330", after := #[{ on := 9, ground := Ground.data }], guard := none }) (v := ?_) rfl (by kernel_rfl) (by kernel_rfl) (by kernel_rfl) (by kernel_rfl) (by kernel_rfl) (fun _ _ _ h => h) (Or.inl ⟨by rfl, ?_⟩) (by assumption) ?_
      rotate_left
      · intro w hSw; (try dsimp only at hSw); go_simp <;> with_reducible rfl
      try simp only [Act.put, List.setIfInBounds_toArray, List.set_cons_zero, List.set_cons_succ]
      refine wpPart_take (i := 11) (oi := { dst := some 47, op := Op.fieldAddr 62 (Operand.tmp 46) 2, type := 0, pos := "ref.go:330", after := #[{ on := 10, ground := Ground.data }], guard := none }) (v := ?_) rfl (by kernel_rfl) (by kernel_rfl) (by kernel_rfl) (by kernel_rfl) (by kernel_rfl) (fun _ _ _ h => h) (Or.inl ⟨by rfl, ?_⟩) (by assumption) ?_
      rotate_left
      · intro w hSw; (try dsimp only at hSw); go_simp <;> with_reducible rfl
      try simp only [Act.put, List.setIfInBounds_toArray, List.set_cons_zero, List.set_cons_succ]
      refine wpPart_take (i := 12) (oi := { dst := some 48, op := Op.load 59 (Operand.tmp 47), type := 59, pos := "ref.go:330", after := #[{ on := 11, ground := Ground.data }], guard := none }) (v := ?_) rfl (by kernel_rfl) (by kernel_rfl) (by kernel_rfl) (by kernel_rfl) (by kernel_rfl) (fun _ _ _ h => h) (Or.inl ⟨by rfl, ?_⟩) (by assumption) ?_
      rotate_left
      · intro w hSw; (try dsimp only at hSw); go_simp <;> with_reducible rfl
      try simp only [Act.put, List.setIfInBounds_toArray, List.set_cons_zero, List.set_cons_succ]
      refine wpPart_take (i := 13) (oi := { dst := some 49, op := Op.move (Operand.tmp 1), type := 3, pos := "ref.go:330", after := #[], guard := none }) (v := ?_) rfl (by kernel_rfl) (by kernel_rfl) (by kernel_rfl) (by kernel_rfl) (by kernel_rfl) (fun _ _ _ h => h) (Or.inl ⟨by rfl, ?_⟩) (by assumption) ?_
      rotate_left
      · intro w hSw; (try dsimp only at hSw); go_simp <;> with_reducible rfl
      try simp only [Act.put, List.setIfInBounds_toArray, List.set_cons_zero, List.set_cons_succ]
      refine wpPart_take (i := 14) (oi := { dst := some 50, op := Op.indexAddr 59 (Operand.tmp 48) (Operand.tmp 49), type := 0, pos := "ref.go:330", after := #[{ on := 12, ground := Ground.data }, { on := 13, ground := Ground.data }], guard := none }) (v := ?_) rfl (by kernel_rfl) (by kernel_rfl) (by kernel_rfl) (by kernel_rfl) (by kernel_rfl) (fun _ _ _ h => h) (Or.inl ⟨by rfl, ?_⟩) (by assumption) ?_
      rotate_left
      · intro w hSw; (try dsimp only at hSw); go_simp <;> with_reducible rfl
      try simp only [Act.put, List.setIfInBounds_toArray, List.set_cons_zero, List.set_cons_succ]
      refine wpPart_take (i := 15) (oi := { dst := some 51, op := Op.load 55 (Operand.tmp 50), type := 55, pos := "ref.go:330", after := #[{ on := 14, ground := Ground.data }], guard := none }) (v := ?_) rfl (by kernel_rfl) (by kernel_rfl) (by kernel_rfl) (by kernel_rfl) (by kernel_rfl) (fun _ _ _ h => h) (Or.inl ⟨by rfl, ?_⟩) (by assumption) ?_
      rotate_left
      · intro w hSw; (try dsimp only at hSw); go_simp <;> with_reducible rfl
      try simp only [Act.put, List.setIfInBounds_toArray, List.set_cons_zero, List.set_cons_succ]
      refine wpPart_ready (rs := [8]) (by kernel_rfl) (by simp) ?_
      refine AllPart.cons (o := { dst := some 44, op := Op.buildSlice 55 0 #[], type := 55, pos := "ref.go:330", after := #[], guard := none }) rfl (by kernel_rfl) (fun K hK => ?_) AllPart.nil
      go_simp
      refine hK.out _ _ ?_ (fun hHeld => ?_)
      · first | exact hS1 | exact rs_cells (blk_alloc HTOP.out _) (blk_alloc HKN.out _) HKV.out | exact rs_cells (blk_alloc HTOP2.out _) (blk_alloc HKN2.out _) HKV.out
      clear hK K
      try simp only [Act.put, List.setIfInBounds_toArray, List.set_cons_zero, List.set_cons_succ]
      refine wpPart_ready (rs := [16]) (by kernel_rfl) (by simp) ?_
      refine AllPart.cons (o := { dst := some 52, op := Op.call { callee := Callee.builtin Builtin.append, args := #[Operand.tmp 44, Operand.tmp 51], argTypes := #[55, 55] }, type := 55, pos := "ref.go:330", after := #[{ on := 8, ground := Ground.data }, { on := 15, ground := Ground.data }], guard := none }) rfl (by kernel_rfl) (fun K hK => ?_) AllPart.nil
      refine step_append_row (by rfl) _ _ 55 (by rfl) i1 (.bool false) 1 Try.underlying55 hii1 hy0 hy1 hy2 (by rfl) (by omega) (by rfl) HE1.out (by simp) _ ll (L.map Value.bool) (by rfl) (RowOf.src (HBT.out.alloc _) (bool_one L)) (by have := HLL.out; unfold maxLen; omega) (by have := HLL.out; omega) ?_
      intro av2 u2 hrow hgrow hat
      have hS1 := rs_cells (blk_grown (blk_alloc HTOP.out _) hgrow HNE1.out) (blk_grown (blk_alloc HKN.out _) hgrow HNE2.out) HKV.out
      have HTOP2 := Lib.hid (blk_grown (blk_alloc HTOP.out (Obj.cells #[] 4)) hgrow HNE1.out)
      have HKN2 := Lib.hid (blk_grown (blk_alloc HKN.out (Obj.cells #[] 4)) hgrow HNE2.out)
      have HM2 : Hid (Mod (fun _ => False) w u2) := (HU0.out.alloc _).grown hgrow HNE3.out
      have HB2 : Hid (Bits u2 av2 (s.knows f)) := ⟨L, by rw [← HL0.out]; simpa using hrow, HLL9.out, HLF.out⟩
      obtain ⟨A5, k5, hf5⟩ := hrow.form
      rw [show 0 + ll = ll by omega] at hf5
      obtain rfl : av2 = _ := hf5
      clear hrow hgrow hat
      refine hK.out _ _ ?_ (fun hHeld => ?_)
      · first | exact hS1 | exact rs_cells (blk_alloc HTOP.out _) (blk_alloc HKN.out _) HKV.out | exact rs_cells (blk_alloc HTOP2.out _) (blk_alloc HKN2.out _) HKV.out
      clear hK K
      try simp only [Act.put, List.setIfInBounds_toArray, List.set_cons_zero, List.set_cons_succ]
      clear hS1
      refine wpPart_take (i := 17) (oi := { dst := some 53, op := Op.build 57 #[(0, Operand.tmp 41), (1, Operand.tmp 42), (2, Operand.tmp 43), (3, Operand.tmp 52)], type := 57, pos := "ref.go:330", after := #[{ on := 5, ground := Ground.data }, { on := 6, ground := Ground.data }, { on := 7, ground := Ground.data }, { on := 16, ground := Ground.data }], guard := none }) (v := ?_) rfl (by kernel_rfl) (by kernel_rfl) (by kernel_rfl) (by kernel_rfl) (by kernel_rfl) (fun _ _ _ h => h) (Or.inl ⟨by rfl, ?_⟩) (by assumption) ?_
      rotate_left
      · intro w hSw; (try dsimp only at hSw); go_simp <;> with_reducible rfl
      try simp only [Act.put, List.setIfInBounds_toArray, List.set_cons_zero, List.set_cons_succ]
      refine wpPart_ready (rs := [18]) (by kernel_rfl) (by simp) ?_
      refine AllPart.cons (o := { dst := some 54, op := Op.buildSlice 58 1 #[(0, Operand.tmp 53)], type := 58, pos := "ref.go:330", after := #[{ on := 17, ground := Ground.data }], guard := none }) rfl (by kernel_rfl) (fun K hK => ?_) AllPart.nil
      go_simp
      refine hK.out _ _ ?_ (fun hHeld => ?_)
      · first | exact hS1 | exact rs_cells (blk_alloc HTOP.out _) (blk_alloc HKN.out _) HKV.out | exact rs_cells (blk_alloc HTOP2.out _) (blk_alloc HKN2.out _) HKV.out
      clear hK K
      try simp only [Act.put, List.setIfInBounds_toArray, List.set_cons_zero, List.set_cons_succ]
      have HMS2 : Hid (RowOf (u2.alloc (.cells #[.int .i64 (f : Int), .int .u64 ((cc : Int) + 1), .int .u64 (t : Int), .slice A5 ll k5] 57)) 57 4 (.slice A s.all.length c) s.all.length (rows.flatMap rcells)) := ((HR.out.same HM2.out).ms_at HRL.out).alloc _
      refine wpPart_ready (rs := [19]) (by kernel_rfl) (by simp) ?_
      refine AllPart.cons (o := { dst := some 55, op := Op.call { callee := Callee.builtin Builtin.append, args := #[Operand.tmp 40, Operand.tmp 54], argTypes := #[58, 58] }, type := 58, pos := "ref.go:330", after := #[{ on := 4, ground := Ground.data }, { on := 18, ground := Ground.data }, { on := 16, ground := Ground.chain }], guard := none }) rfl (by kernel_rfl) (fun K hK => ?_) AllPart.nil
      refine step_append_row (by rfl) _ _ 58 (by rfl) i0 (.agg #[.int .i64 0, .int .u64 0, .int .u64 0, .slice none 0 0]) 48 Try.underlying58 hii hz0 hz1 hz2 (by rfl) (by omega) (by rfl) (HMS2.out) (rcells_ones HR.out) _ 1 [.int .i64 (f : Int), .int .u64 ((cc : Int) + 1), .int .u64 (t : Int), .slice A5 ll k5] (by rfl) (src_fourR _ _ _ _ _ _ (by simp [Value.oneCell'])) (by have := HL.out; unfold maxLen; omega) (by have := HL.out; omega) ?_
      intro mv2 u4 hrow2 hgrow2 hat2
      have hS1 := rs_cells (blk_grown (blk_alloc HTOP2.out _) hgrow2 HNM1.out) (blk_grown (blk_alloc HKN2.out _) hgrow2 HNM2.out) HKV.out
      obtain ⟨A6, k6, hf6⟩ := hrow2.form
      obtain rfl : mv2 = _ := hf6
      refine hK.out _ _ ?_ (fun hHeld => ?_)
      · first | exact hS1 | exact rs_cells (blk_alloc HTOP.out _) (blk_alloc HKN.out _) HKV.out | exact rs_cells (blk_alloc HTOP2.out _) (blk_alloc HKN2.out _) HKV.out
      clear hK K
      try simp only [Act.put, List.setIfInBounds_toArray, List.set_cons_zero, List.set_cons_succ]
      clear hS1
      refine wpPart_ready (rs := [20]) (by kernel_rfl) (by simp) ?_
      refine AllPart.cons (o := { dst := some 56, op := Op.nilCheck (Operand.tmp 36), type := 0, pos := "ref.go:330", after := #[{ on := 0, ground := Ground.data }, { on := 0, ground := Ground.phase }, { on := 1, ground := Ground.phase }, { on := 2, ground := Ground.phase }, { on := 3, ground := Ground.phase }, { on := 4, ground := Ground.phase }, { on := 5, ground := Ground.phase }, { on := 6, ground := Ground.phase }, { on := 7, ground := Ground.phase }, { on := 8, ground := Ground.phase }, { on := 9, ground := Ground.phase }, { on := 10, ground := Ground.phase }, { on := 11, ground := Ground.phase }, { on := 12, ground := Ground.phase }, { on := 13, ground := Ground.phase }, { on := 14, ground := Ground.phase }, { on := 15, ground := Ground.phase }, { on := 16, ground := Ground.phase }, { on := 17, ground := Ground.phase }, { on := 18, ground := Ground.phase }, { on := 19, ground := Ground.phase }], guard := none }) rfl (by kernel_rfl) (fun K hK => ?_) AllPart.nil
      go_simp
      refine hK.out _ _ ?_ (fun hHeld => ?_)
      · assumption
      clear hK K
      try simp only [Act.put, List.setIfInBounds_toArray, List.set_cons_zero, List.set_cons_succ]
      refine wpPart_take (i := 21) (oi := { dst := some 57, op := Op.fieldAddr 62 (Operand.tmp 56) 1, type := 0, pos := "ref.go:330", after := #[{ on := 20, ground := Ground.data }, { on := 0, ground := Ground.phase }, { on := 1, ground := Ground.phase }, { on := 2, ground := Ground.phase }, { on := 3, ground := Ground.phase }, { on := 4, ground := Ground.phase }, { on := 5, ground := Ground.phase }, { on := 6, ground := Ground.phase }, { on := 7, ground := Ground.phase }, { on := 8, ground := Ground.phase }, { on := 9, ground := Ground.phase }, { on := 10, ground := Ground.phase }, { on := 11, ground := Ground.phase }, { on := 12, ground := Ground.phase }, { on := 13, ground := Ground.phase }, { on := 14, ground := Ground.phase }, { on := 15, ground := Ground.phase }, { on := 16, ground := Ground.phase }, { on := 17, ground := Ground.phase }, { on := 18, ground := Ground.phase }, { on := 19, ground := Ground.phase }], guard := none }) (v := ?_) rfl (by kernel_rfl) (by kernel_rfl) (by kernel_rfl) (by kernel_rfl) (by kernel_rfl) (fun _ _ _ h => h) (Or.inl ⟨by rfl, ?_⟩) (by assumption) ?_
      rotate_left
      · intro w hSw; (try dsimp only at hSw); go_simp <;> with_reducible rfl
      try simp only [Act.put, List.setIfInBounds_toArray, List.set_cons_zero, List.set_cons_succ]
      refine wpPart_ready (rs := [22]) (by kernel_rfl) (by simp) ?_
      refine AllPart.last (o := { dst := none, op := Op.store 58 (Operand.tmp 57) (Operand.tmp 55), type := 0, pos := "ref.go:330", after := #[{ on := 21, ground := Ground.data }, { on := 19, ground := Ground.data }, { on := 19, ground := Ground.chain }, { on := 0, ground := Ground.phase }, { on := 1, ground := Ground.phase }, { on := 2, ground := Ground.phase }, { on := 3, ground := Ground.phase }, { on := 4, ground := Ground.phase }, { on := 5, ground := Ground.phase }, { on := 6, ground := Ground.phase }, { on := 7, ground := Ground.phase }, { on := 8, ground := Ground.phase }, { on := 9, ground := Ground.phase }, { on := 10, ground := Ground.phase }, { on := 11, ground := Ground.phase }, { on := 12, ground := Ground.phase }, { on := 13, ground := Ground.phase }, { on := 14, ground := Ground.phase }, { on := 15, ground := Ground.phase }, { on := 16, ground := Ground.phase }, { on := 17, ground := Ground.phase }, { on := 18, ground := Ground.phase }, { on := 19, ground := Ground.phase }], guard := none }) rfl (by kernel_rfl) (fun K hK => ?_) AllPart.nil
      have hc := hHeld.1
      have hf := hHeld.2.1
      go_simp
      refine hK.out _ _ ?_
      clear hK K
      try simp only [Act.put, List.setIfInBounds_toArray, List.set_cons_zero, List.set_cons_succ]
      clear hc hf
      refine wpPart_done (by kernel_rfl) ?_ _
      obtain ⟨hR5, hM5, hO5⟩ := rmore_end (m := ⟨f, cnt s.all f + 1, t, s.knows f, M⟩) (v := .slice A5 ll k5) (mv2 := .slice A6 (s.all.length + 1) k6) (u2 := u4) HR.out (HM2.out.alloc (.cells #[.int .i64 (f : Int), .int .u64 ((cc : Int) + 1), .int .u64 (t : Int), .slice A5 ll k5] 57)) (HB2.out.quiet ((Mod.refl _ _).alloc _)) (by
        have e : rcells ((⟨f, cnt s.all f + 1, t, s.knows f, M⟩ : Ms), .slice A5 ll k5) = [.int .i64 (f : Int), .int .u64 ((cc : Int) + 1), .int .u64 (t : Int), .slice A5 ll k5] := by simp [rcells, HCC.out]
        rw [e]
        show RowOf u4 _ 4 (.slice A6 (s.all.length + 1) k6) (rows.length + 1) (rows.flatMap rcells ++ _)
        rw [HRL.out]
        exact hrow2) hgrow2 hat2
      have HR8 := Lib.hid hR5
      have HM8 := Lib.hid hM5
      have HO8 := Lib.hid hO5
      clear hR5 hM5 hO5 hrow2 hgrow2 hat2 HM2 HB2 HMS2 HTOP2 HKN2 HE1 HNE1 HNE2 HNE3 HRZ HKZ HSZ HU0 HTOP HKN HBT
      generalize u4.setCell ⟨R, 1, none⟩ (.slice A6 (s.all.length + 1) k6) = w8 at *
      have HT9 : Hid (w8.drew.heap[R]? = some (.cells #[.int .i64 (s.n : Int), .slice A6 (s.all.length + 1) k6, .slice (some ⟨kR, 0, none⟩) s.n s.n, .slice (some ⟨tR, 0, none⟩) s.n s.n] 62 (0, 0))) := HR8.out.top
      have HK9 : Hid (w8.drew.heap[kR]? = some (.cells ((List.range s.n).map kv).toArray 55 (0, 0))) := HR8.out.kn
      have HBO : Hid (Calls Try.prog 33 #[.slice A2 ll c2, .slice none 0 0, .int .i64 (s.all.length : Int)] w8.drew fun e w' => ∃ v, e = .returned v ∧ Bits w' v (fun j => (s.knows f j || false) || j == s.all.length) ∧ Mod (fun _ => False) w8.drew w') := by
        rw [← HKV0.out]
        exact rboth_any _ _ (s.knows f) (fun _ => false) s.all.length w8.drew ((HR8.out.ks f hf).quiet (Mod.refl _ _).drew) (Bits.nil _) HL.out
      have HD8 : Hid (Mod (fun _ => False) w8 w8.drew) := (Mod.refl _ _).drew
      go_wp2_with fail
      refine wp_region_part (S := fun w' => w'.cell? ⟨R, 2, none⟩ = some (.slice (some ⟨kR, 0, none⟩) s.n s.n) ∧ w'.cell? ⟨kR, f, none⟩ = some (.slice A2 ll c2) ∧ w'.frozen? ⟨kR, f, none⟩ = false) [15] (by kernel_rfl) ?_ (fun hHeld => ?_)
      · exact rk_cells (W := w8.drew) HT9.out HK9.out HKV.out
      generalize w8.drew = u8 at *
      refine wpPart_take (i := 0) (oi := { dst := some 58, op := Op.move (Operand.tmp 0), type := 50, pos := "ref.go:331", after := #[], guard := none }) (v := ?_) rfl (by kernel_rfl) (by kernel_rfl) (by kernel_rfl) (by kernel_rfl) (by kernel_rfl) (fun _ _ _ h => h) (Or.inl ⟨by rfl, ?_⟩) (by assumption) ?_
      rotate_left
      · intro w hSw; (try dsimp only at hSw); go_simp <;> with_reducible rfl
      try simp only [Act.put, List.setIfInBounds_toArray, List.set_cons_zero, List.set_cons_succ]
      refine wpPart_take (i := 1) (oi := { dst := some 59, op := Op.nilCheck (Operand.tmp 58), type := 0, pos := "ref.go:331", after := #[{ on := 0, ground := Ground.data }], guard := none }) (v := ?_) rfl (by kernel_rfl) (by kernel_rfl) (by kernel_rfl) (by kernel_rfl) (by kernel_rfl) (fun _ _ _ h => h) (Or.inl ⟨by rfl, ?_⟩) (by assumption) ?_
      rotate_left
      · intro w hSw; (try dsimp only at hSw); go_simp <;> with_reducible rfl
      try simp only [Act.put, List.setIfInBounds_toArray, List.set_cons_zero, List.set_cons_succ]
      refine wpPart_take (i := 2) (oi := { dst := some 60, op := Op.fieldAddr 62 (Operand.tmp 59) 2, type := 0, pos := "ref.go:331", after := #[{ on := 1, ground := Ground.data }], guard := none }) (v := ?_) rfl (by kernel_rfl) (by kernel_rfl) (by kernel_rfl) (by kernel_rfl) (by kernel_rfl) (fun _ _ _ h => h) (Or.inl ⟨by rfl, ?_⟩) (by assumption) ?_
      rotate_left
      · intro w hSw; (try dsimp only at hSw); go_simp <;> with_reducible rfl
      try simp only [Act.put, List.setIfInBounds_toArray, List.set_cons_zero, List.set_cons_succ]
      refine wpPart_take (i := 3) (oi := { dst := some 61, op := Op.load 59 (Operand.tmp 60), type := 59, pos := "ref.go:331", after := #[{ on := 2, ground := Ground.data }], guard := none }) (v := ?_) rfl (by kernel_rfl) (by kernel_rfl) (by kernel_rfl) (by kernel_rfl) (by kernel_rfl) (fun _ _ _ h => h) (Or.inl ⟨by rfl, ?_⟩) (by assumption) ?_
      rotate_left
      · intro w hSw; (try dsimp only at hSw); go_simp <;> with_reducible rfl
      try simp only [Act.put, List.setIfInBounds_toArray, List.set_cons_zero, List.set_cons_succ]
      refine wpPart_take (i := 4) (oi := { dst := some 62, op := Op.move (Operand.tmp 1), type := 3, pos := "ref.go:331", after := #[], guard := none }) (v := ?_) rfl (by kernel_rfl) (by kernel_rfl) (by kernel_rfl) (by kernel_rfl) (by kernel_rfl) (fun _ _ _ h => h) (Or.inl ⟨by rfl, ?_⟩) (by assumption) ?_
      rotate_left
      · intro w hSw; (try dsimp only at hSw); go_simp <;> with_reducible rfl
      try simp only [Act.put, List.setIfInBounds_toArray, List.set_cons_zero, List.set_cons_succ]
      refine wpPart_take (i := 5) (oi := { dst := some 63, op := Op.move (Operand.tmp 0), type := 50, pos := "ref.go:331", after := #[], guard := none }) (v := ?_) rfl (by kernel_rfl) (by kernel_rfl) (by kernel_rfl) (by kernel_rfl) (by kernel_rfl) (fun _ _ _ h => h) (Or.inl ⟨by rfl, ?_⟩) (by assumption) ?_
      rotate_left
      · intro w hSw; (try dsimp only at hSw); go_simp <;> with_reducible rfl
      try simp only [Act.put, List.setIfInBounds_toArray, List.set_cons_zero, List.set_cons_succ]
      refine wpPart_take (i := 6) (oi := { dst := some 64, op := Op.nilCheck (Operand.tmp 63), type := 0, pos := "ref.go:331", after := #[{ on := 5, ground := Ground.data }], guard := none }) (v := ?_) rfl (by kernel_rfl) (by kernel_rfl) (by kernel_rfl) (by kernel_rfl) (by kernel_rfl) (fun _ _ _ h => h) (Or.inl ⟨by rfl, ?_⟩) (by assumption) ?_
      rotate_left
      · intro w hSw; (try dsimp only at hSw); go_simp <;> with_reducible rfl
      try simp only [Act.put, List.setIfInBounds_toArray, List.set_cons_zero, List.set_cons_succ]
      refine wpPart_take (i := 7) (oi := { dst := some 65, op := Op.fieldAddr 62 (Operand.tmp 64) 2, type := 0, pos := "ref.go:331", after := #[{ on := 6, ground := Ground.data }], guard := none }) (v := ?_) rfl (by kernel_rfl) (by kernel_rfl) (by kernel_rfl) (by kernel_rfl) (by kernel_rfl) (fun _ _ _ h => h) (Or.inl ⟨by rfl, ?_⟩) (by assumption) ?_
      rotate_left
      · intro w hSw; (try dsimp only at hSw); go_simp <;> with_reducible rfl
      try simp only [Act.put, List.setIfInBounds_toArray, List.set_cons_zero, List.set_cons_succ]
      refine wpPart_take (i := 8) (oi := { dst := some 66, op := Op.load 59 (Operand.tmp 65), type := 59, pos := "ref.go:331", after := #[{ on := 7, ground := Ground.data }], guard := none }) (v := ?_) rfl (by kernel_rfl) (by kernel_rfl) (by kernel_rfl) (by kernel_rfl) (by kernel_rfl) (fun _ _ _ h => h) (Or.inl ⟨by rfl, ?_⟩) (by assumption) ?_
      rotate_left
      · intro w hSw; (try dsimp only at hSw); go_simp <;> with_reducible rfl
      try simp only [Act.put, List.setIfInBounds_toArray, List.set_cons_zero, List.set_cons_succ]
      refine wpPart_take (i := 9) (oi := { dst := some 67, op := Op.move (Operand.tmp 1), type := 3, pos := "ref.go:331", after := #[], guard := none }) (v := ?_) rfl (by kernel_rfl) (by kernel_rfl) (by kernel_rfl) (by kernel_rfl) (by kernel_rfl) (fun _ _ _ h => h) (Or.inl ⟨by rfl, ?_⟩) (by assumption) ?_
      rotate_left
      · intro w hSw; (try dsimp only at hSw); go_simp <;> with_reducible rfl
      try simp only [Act.put, List.setIfInBounds_toArray, List.set_cons_zero, List.set_cons_succ]
      refine wpPart_take (i := 10) (oi := { dst := some 68, op := Op.indexAddr 59 (Operand.tmp 66) (Operand.tmp 67), type := 0, pos := "ref.go:331", after := #[{ on := 8, ground := Ground.data }, { on := 9, ground := Ground.data }], guard := none }) (v := ?_) rfl (by kernel_rfl) (by kernel_rfl) (by kernel_rfl) (by kernel_rfl) (by kernel_rfl) (fun _ _ _ h => h) (Or.inl ⟨by rfl, ?_⟩) (by assumption) ?_
      rotate_left
      · intro w hSw; (try dsimp only at hSw); go_simp <;> with_reducible rfl
      try simp only [Act.put, List.setIfInBounds_toArray, List.set_cons_zero, List.set_cons_succ]
      refine wpPart_take (i := 11) (oi := { dst := some 69, op := Op.load 55 (Operand.tmp 68), type := 55, pos := "ref.go:331", after := #[{ on := 10, ground := Ground.data }], guard := none }) (v := ?_) rfl (by kernel_rfl) (by kernel_rfl) (by kernel_rfl) (by kernel_rfl) (by kernel_rfl) (fun _ _ _ h => h) (Or.inl ⟨by rfl, ?_⟩) (by assumption) ?_
      rotate_left
      · intro w hSw; (try dsimp only at hSw); go_simp <;> with_reducible rfl
      try simp only [Act.put, List.setIfInBounds_toArray, List.set_cons_zero, List.set_cons_succ]
      refine wpPart_take (i := 12) (oi := { dst := some 70, op := Op.move (Operand.tmp 9), type := 3, pos := "ref.go:331", after := #[], guard := none }) (v := ?_) rfl (by kernel_rfl) (by kernel_rfl) (by kernel_rfl) (by kernel_rfl) (by kernel_rfl) (fun _ _ _ h => h) (Or.inl ⟨by rfl, ?_⟩) (by assumption) ?_
      rotate_left
      · intro w hSw; (try dsimp only at hSw); go_simp <;> with_reducible rfl
      try simp only [Act.put, List.setIfInBounds_toArray, List.set_cons_zero, List.set_cons_succ]
      refine wpPart_ready (rs := [13]) (by kernel_rfl) (by simp) ?_
      refine AllPart.cons (o := { dst := some 71, op := Op.call { callee := Callee.value (Operand.func 33), args := #[Operand.tmp 69, Operand.const (Value.slice none 0 0), Operand.tmp 70], argTypes := #[55, 55, 3] }, type := 55, pos := "ref.go:331", after := #[{ on := 11, ground := Ground.data }, { on := 12, ground := Ground.data }], guard := none }) rfl (by kernel_rfl) (fun K hK => ?_) AllPart.nil
      go_simp
      go_at_call 33
      refine HBO.out.mono ?_
      rintro e u6 ⟨nv, rfl, hb6, hm6⟩
      have hS1 := rk_cells (hm6.blk HT9.out (fun x => x)) (hm6.blk HK9.out (fun x => x)) HKV.out
      obtain ⟨A7, n7, k7, rfl⟩ := hb6.form
      have HB6 := Lib.hid hb6
      have HM6 := Lib.hid hm6
      clear hb6 hm6
      refine hK.out _ _ ?_ (fun hHeld => ?_)
      · exact hS1
      clear hK K
      try simp only [Act.put, List.setIfInBounds_toArray, List.set_cons_zero, List.set_cons_succ]
      clear hS1
      refine wpPart_take (i := 14) (oi := { dst := some 72, op := Op.indexAddr 59 (Operand.tmp 61) (Operand.tmp 62), type := 0, pos := "ref.go:331", after := #[{ on := 3, ground := Ground.data }, { on := 4, ground := Ground.data }, { on := 0, ground := Ground.phase }, { on := 1, ground := Ground.phase }, { on := 2, ground := Ground.phase }, { on := 3, ground := Ground.phase }, { on := 4, ground := Ground.phase }, { on := 5, ground := Ground.phase }, { on := 6, ground := Ground.phase }, { on := 7, ground := Ground.phase }, { on := 8, ground := Ground.phase }, { on := 9, ground := Ground.phase }, { on := 10, ground := Ground.phase }, { on := 11, ground := Ground.phase }, { on := 12, ground := Ground.phase }, { on := 13, ground := Ground.phase }], guard := none }) (v := ?_) rfl (by kernel_rfl) (by kernel_rfl) (by kernel_rfl) (by kernel_rfl) (by kernel_rfl) (fun _ _ _ h => h) (Or.inl ⟨by rfl, ?_⟩) (by assumption) ?_
      rotate_left
      · intro w hSw; (try dsimp only at hSw); go_simp <;> with_reducible rfl
      try simp only [Act.put, List.setIfInBounds_toArray, List.set_cons_zero, List.set_cons_succ]
      refine wpPart_ready (rs := [15]) (by kernel_rfl) (by simp) ?_
      refine AllPart.last (o := { dst := none, op := Op.store 55 (Operand.tmp 72) (Operand.tmp 71), type := 0, pos := "ref.go:331", after := #[{ on := 14, ground := Ground.data }, { on := 13, ground := Ground.data }, { on := 13, ground := Ground.chain }, { on := 0, ground := Ground.phase }, { on := 1, ground := Ground.phase }, { on := 2, ground := Ground.phase }, { on := 3, ground := Ground.phase }, { on := 4, ground := Ground.phase }, { on := 5, ground := Ground.phase }, { on := 6, ground := Ground.phase }, { on := 7, ground := Ground.phase }, { on := 8, ground := Ground.phase }, { on := 9, ground := Ground.phase }, { on := 10, ground := Ground.phase }, { on := 11, ground := Ground.phase }, { on := 12, ground := Ground.phase }, { on := 13, ground := Ground.phase }], guard := none }) rfl (by kernel_rfl) (fun K hK => ?_) AllPart.nil
      have hc := hHeld.2.1
      have hf := hHeld.2.2
      go_simp
      refine hK.out _ _ ?_
      clear hK K
      try simp only [Act.put, List.setIfInBounds_toArray, List.set_cons_zero, List.set_cons_succ]
      clear hc hf
      refine wpPart_done (by kernel_rfl) ?_ _
      have HE : Hid (RSent w R ⟨rows, .slice A s.all.length c, kR, tR, kv, gv⟩ (s.sent f t M av) (u6.setCell ⟨kR, f, none⟩ (.slice A7 n7 k7))) := by
        have hb : Bits u6 (.slice A7 n7 k7) (fun k => s.knows f k || k == s.all.length) := by simpa using HB6.out
        have hm6 := HD8.out.trans HM6.out
        have hk := (HR8.out.same hm6).know (p := f) hb
        refine ⟨_, hk.conv rfl rfl rfl rfl, ?_, fun b hb => ?_⟩
        · exact ((HM8.out.mono (fun i _ x => x.elim .inl (fun x => .inr (.inl x)))).trans' hm6 (fun _ _ x => x.elim)).set (p := ⟨kR, f, none⟩) (fun _ => .inr (.inr (.inl rfl))) _
        · rcases hb with rfl | hb | rfl | rfl
          · exact .inl (.inl rfl)
          · exact (HO8.out b hb).elim (fun x => .inl (.inr (.inl x))) .inr
          · exact .inl (.inr (.inr (.inl rfl)))
          · exact .inl (.inr (.inr (.inr rfl)))
      clear HBO HT9 HK9 HB6 HM6 HD8 HR8 HM8 HO8
      go_wp2
      go_ret
      exact ⟨rfl, HE.out⟩
end Go.Proofs.Yteicceikaecfcaa
