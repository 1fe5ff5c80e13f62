/-
  Package past: Send.
-/
import Derived.Test.YteicceikaecfcaaPastH
import Derived.StillTailTactics
namespace Go.Proofs.Yteicceikaecfcaa
open Go.RowKit Go.Shoal Go.Maps

/-- May somebody send to these? -/
def Pa.goodTo (s : Pa) (f t : Nat) : Bool := !(t == 0) && !inSet t (f : Int) && decide (lessOf t (allOf s.n) = 0)
def noID : Value := .agg #[.int .i64 0, .int .u64 0]
def SentEnd (w : World) (B : Nat) (s : Pa) (f t : Nat) (e : Ending) (w' : World) : Prop :=
  ∃ M av, e = .returned (.tuple #[.agg #[.int .i64 (f : Int), .int .u64 ((cnt s.all f + 1 : Nat) : Int)], .int .i64 0]) ∧ PastAt w' B (s.sent f t M av) ∧ Mod (Foot B s) w w' ∧ ∀ b, Foot B (s.sent f t M av) b → Foot B s b ∨ w.heap.size ≤ b
theorem Try.infoSent : (Try.prog.info? 73).map (fun i => (i.zero, i.size, i.bytes)) = some (some (.agg #[.int .i64 0, .int .u64 0, .int .u64 0, .map none]), 4, 32) := by kernel_rfl
/-- In the midst of Send. -/
structure SendW (w : World) (s : Pa) (f t c : Nat) (S : Nat → Prop) (g : Nat → Bool) (W : World) : Prop where
  x : W.heap[w.heap.size + 1 + 1]? = some (.cells #[.int .i64 (f : Int), .int .u64 ((c : Int) + 1), .int .u64 (t : Int), .map (some (w.heap.size + 1))] 73 (0, 0))
  r : W.heap[w.heap.size]? = some (.cells #[.int .i64 0, .int .u64 0] 34 (0, 0))
  m : SetsAt W (w.heap.size + 1) g
  md : Mod S w W
  crow : W.heap[s.cB]? = some (.cells (s.crow.setIfInBounds f (.int .u64 ((c : Int) + 1))) 30 (0, 0))
theorem SendW.start {w : World} {B : Nat} {s : Pa} (h : PastAt w B s) (f t c : Nat) :
    SendW w s f t c (· = s.cB) (fun _ => false) ((((w.setCell ⟨s.cB, f, none⟩ (.int .u64 ((c : Int) + 1))).alloc (.cells #[.int .i64 0, .int .u64 0] 34)).alloc (.map #[] 0)).alloc (.cells #[.int .i64 (f : Int), .int .u64 ((c : Int) + 1), .int .u64 (t : Int), .map (some (w.heap.size + 1))] 73)) := by
  have s0 : (w.setCell ⟨s.cB, f, none⟩ (.int .u64 ((c : Int) + 1))).heap.size = w.heap.size := by simp [World.setCell]
  have s1 : ((w.setCell ⟨s.cB, f, none⟩ (.int .u64 ((c : Int) + 1))).alloc (.cells #[.int .i64 0, .int .u64 0] 34)).heap.size = w.heap.size + 1 := by simp [World.setCell]
  have s2 : (((w.setCell ⟨s.cB, f, none⟩ (.int .u64 ((c : Int) + 1))).alloc (.cells #[.int .i64 0, .int .u64 0] 34)).alloc (.map #[] 0)).heap.size = w.heap.size + 1 + 1 := by simp [World.setCell]
  refine ⟨?_, ?_, ?_, ?_, ?_⟩
  · rw [← s2]; exact blk_new _ _
  · have := blk_new (w.setCell ⟨s.cB, f, none⟩ (.int .u64 ((c : Int) + 1))) (.cells #[.int .i64 0, .int .u64 0] 34)
    rw [s0] at this
    exact blk_alloc (blk_alloc this _) _
  · have := SetAt.made Try.prog 3 4 ((w.setCell ⟨s.cB, f, none⟩ (.int .u64 ((c : Int) + 1))).alloc (.cells #[.int .i64 0, .int .u64 0] 34))
    rw [s1] at this
    exact this.keep (Below.heap_alloc _ _ _ (by rw [s2]; omega))
  · exact ((((Mod.refl (· = s.cB) w).set (p := ⟨s.cB, f, none⟩) (fun _ => rfl) _).alloc _).alloc _).alloc _
  · exact blk_alloc (blk_alloc (blk_alloc (blk_set h.crow f _) _) _) _
theorem SendW.next {w W W' : World} {s : Pa} {f t c b : Nat} {S T : Nat → Prop} {g g' : Nat → Bool} (h : SendW w s f t c S g W) (hm : Mod (· = b) W W') (hb : b ≠ w.heap.size + 1 + 1) (hb' : b ≠ w.heap.size) (hc : b ≠ s.cB) (hg : SetsAt W' (w.heap.size + 1) g') (hS : ∀ i, i < w.heap.size → S i ∨ i = b → T i) : SendW w s f t c T g' W' :=
  ⟨hm.blk h.x (Ne.symm hb), hm.blk h.r (Ne.symm hb'), hg, (h.md.mono (fun i hi hs => hS i hi (.inl hs))).trans' hm (fun i hi e => hS i hi (.inr e)), hm.blk h.crow (Ne.symm hc)⟩
theorem four_cells {w : World} {z t : Nat} {a b c d : Value} (h : w.heap[z]? = some (.cells #[a, b, c, d] t (0, 0))) : w.cell? ⟨z, 0, none⟩ = some a ∧ w.cell? ⟨z, 1, none⟩ = some b ∧ w.cell? ⟨z, 2, none⟩ = some c ∧ w.cell? ⟨z, 3, none⟩ = some d :=
  ⟨(blk_cell h 0).trans rfl, (blk_cell h 1).trans rfl, (blk_cell h 2).trans rfl, (blk_cell h 3).trans rfl⟩
theorem send_cells {w : World} {B X t t' : Nat} {v0 v1 v2 v3 v4 a b c d : Value} (h : w.heap[B]? = some (.cells #[v0, v1, v2, v3, v4] t (0, 0))) (hx : w.heap[X]? = some (.cells #[a, b, c, d] t' (0, 0))) :
    w.cell? ⟨B, 0, none⟩ = some v0 ∧ w.frozen? ⟨B, 0, none⟩ = false ∧ w.cell? ⟨X, 0, none⟩ = some a ∧ w.cell? ⟨X, 1, none⟩ = some b ∧ w.cell? ⟨X, 2, none⟩ = some c ∧ w.cell? ⟨X, 3, none⟩ = some d :=
  ⟨(blk_cell h 0).trans rfl, blk_frozen h 0, four_cells hx⟩
theorem all_one (l : List Ms) : ∀ u ∈ l.flatMap Ms.cells, u.oneCell' = true := by
  intro u hu
  obtain ⟨m, _, hm⟩ := List.mem_flatMap.1 hu
  exact m.one u hm
theorem src_four (w : World) (a b c d : Value) (t : Nat) (h : ∀ u ∈ [a, b, c, d], u.oneCell' = true) : SrcOk (w.alloc (.cells #[a, b, c, d] t)) (.slice (some ⟨w.heap.size, 0, none⟩) 1 1) 1 4 [a, b, c, d] :=
  SrcOk.block (blk_new w _) rfl (fun j u hu => by rw [Nat.zero_add]; simpa using hu) h
theorem SendW.none {w W W' : World} {s : Pa} {f t c : Nat} {S : Nat → Prop} {g : Nat → Bool} (h : SendW w s f t c S g W) (hm : Mod (fun _ => False) W W') : SendW w s f t c S g W' :=
  ⟨hm.blk h.x (fun x => x), hm.blk h.r (fun x => x), h.m.mod hm (fun x => x), h.md.trans' hm (fun _ _ x => x.elim), hm.blk h.crow (fun x => x)⟩
/-- The end of Send. -/
theorem send_end {w u u2 W : World} {B : Nat} {s : Pa} {f t c : Nat} {av : Value} (h : PastAt w B s) (hf : f < s.n) (ht : t < 18446744073709551616) (hl : s.all.length < 1000) (hc : c = cnt s.all f)
    (hW : SendW w s f t c (fun b => b = s.cB ∨ b = s.kb f) (s.knows f) u) (hK : SetsAt u (s.kb f) (fun k => s.knows f k || k == s.all.length))
    (hg : u.grownBy u2 s.av.ownBlock) (hrow : RowOf u2 73 4 av (s.all.length + 1) (s.all.flatMap Ms.cells ++ [.int .i64 (f : Int), .int .u64 ((c : Int) + 1), .int .u64 (t : Int), .map (some (w.heap.size + 1))]))
    (hat : av.ownBlock = s.av.ownBlock ∨ ∃ q, av.ownBlock = some q ∧ w.heap.size ≤ q) (hm : Mod (fun b => b = B ∨ b = w.heap.size) u2 W) (htop : W.heap[B]? = some (.cells (s.sent f t (w.heap.size + 1) av).top 69 (0, 0))) (hRne : ∀ b, av.ownBlock = some b → b ≠ B ∧ b ≠ w.heap.size) :
    SentEnd w B s f t (.returned (.tuple #[.agg #[.int .i64 (f : Int), .int .u64 ((c : Int) + 1)], .int .i64 0])) W := by
  obtain ⟨ef, cf, mf⟩ := (h.ks f hf).isMap
  have hBz := blk_lt h.top
  have hcz := blk_lt h.crow
  have hkz := (h.ks f hf).lt_size
  have m1 : Mod (SendS B s f) w u := hW.md.mono (fun i _ e => e.elim .inl (fun e => .inr (.inl e)))
  have m2 : Mod (SendS B s f) w u2 := m1.trans' (Mod.of_grown (S := fun k => s.av.ownBlock = some k) hg (fun k e _ => e)) (fun i _ e => .inr (.inr (.inl e)))
  have m3 : Mod (SendS B s f) w W := m2.trans' hm (fun i hi e => by
    rcases e with e | e
    · exact .inr (.inr (.inr e))
    · omega)
  have hset : ∀ b g, SetsAt u b g → b ≠ B → b ≠ w.heap.size → SetsAt W b g := fun b g hs h1 h2 => by
    obtain ⟨es, cs, ms⟩ := hs.isMap
    refine (hs.mod (Mod.of_grown (S := fun k => s.av.ownBlock = some k) hg (fun k e _ => e)) (fun e => ?_)).mod hm (fun e => e.elim h1 h2)
    obtain ⟨cur, hcur⟩ := h.all.block e
    have hlt := blk_lt hcur
    by_cases hb : b = s.cB ∨ b = s.kb f
    · rcases hb with rfl | rfl
      · exact ne_map hW.crow ms rfl
      · exact ne_map hcur mf rfl
    · exact ne_map (hW.md.blk hcur hb) ms rfl
  have hcrow : W.heap[s.cB]? = some (.cells (s.sent f t (w.heap.size + 1) av).crow 30 (0, 0)) := by
    rw [← crow_set s f t (w.heap.size + 1) av hf, ← hc]
    refine hm.blk (blk_grown hW.crow hg (fun k hk e => ?_)) (fun e => ?_)
    · exact row_ne h.all h.crow (by decide) k hk e.symm
    · rcases e with e | e
      · exact blk_ne h.crow h.top (by decide) e
      · omega
  subst hc
  refine ⟨w.heap.size + 1, av, by simp, h.send hf ht hl (by omega) m3 htop ?_ hcrow (hset _ _ hW.m (by omega) (by omega)) (hset _ _ hK (fun e => ne_map h.top mf e.symm) (by omega)), m3.mono (fun i _ e => ?_), fun b hb => ?_⟩
  · rw [List.flatMap_append]
    refine RowOf.mod ?_ hm (fun b hb e => by have := hRne b hb; omega)
    have e1 : ([(⟨f, cnt s.all f + 1, t, s.knows f, w.heap.size + 1⟩ : Ms)]).flatMap Ms.cells = [.int .i64 (f : Int), .int .u64 ((cnt s.all f : Int) + 1), .int .u64 (t : Int), .map (some (w.heap.size + 1))] := by simp [Ms.cells]
    rw [e1]
    exact hrow
  · rcases e with e | e | e | e
    · exact .inr (.inr (.inr (.inl e)))
    · exact .inr (.inr (.inr (.inr (.inr (.inr (.inl ⟨f, hf, e⟩))))))
    · exact .inr (.inl e)
    · exact .inl e
  · rcases hb with e | e | e | e | e | e | e | ⟨m, hmm, e⟩ | e
    · exact .inl (.inl e)
    · rcases hat with h1 | ⟨q, h1, h2⟩
      · exact .inl (.inr (.inl (by rw [← h1]; exact e)))
      · have e' : av.ownBlock = some b := e
        rw [h1] at e'
        cases e'
        exact .inr h2
    · exact .inl (.inr (.inr (.inl e)))
    · exact .inl (.inr (.inr (.inr (.inl e))))
    · exact .inl (.inr (.inr (.inr (.inr (.inl e)))))
    · exact .inl (.inr (.inr (.inr (.inr (.inr (.inl e))))))
    · exact .inl (.inr (.inr (.inr (.inr (.inr (.inr (.inl e)))))))
    · rcases List.mem_append.1 hmm with hmm | hmm
      · exact .inl (.inr (.inr (.inr (.inr (.inr (.inr (.inr (.inl ⟨m, hmm, e⟩))))))))
      · obtain rfl := List.mem_singleton.1 hmm
        exact .inr (by rw [e]; show _ ≤ w.heap.size + 1; omega)
    · exact .inl (.inr (.inr (.inr (.inr (.inr (.inr (.inr (.inr e))))))))
set_option maxRecDepth 100000 in
set_option maxHeartbeats 4000000 in
theorem send_yes (B : Nat) (s : Pa) (f t : Nat) (w : World) (h : PastAt w B s) (hf : f < s.n) (ht : t < 18446744073709551616) (hg : s.goodTo f t = true) (hl : s.all.length < 1000) :
    Calls Try.prog 11 #[.pointer (some ⟨B, 0, none⟩), .int .i64 f, .int .u64 t] w (SentEnd w B s f t) := by
  obtain ⟨g1, g2, g3⟩ : ((t : Int) == 0) = false ∧ inSet t (f : Int) = false ∧ lessOf t (allOf s.n) = 0 := by
    unfold Pa.goodTo at hg
    simp only [Bool.and_eq_true, Bool.not_eq_true', decide_eq_true_eq] at hg
    refine ⟨?_, hg.1.2, hg.2⟩
    have := hg.1.1
    rw [beq_eq_false_iff_ne] at this ⊢
    omega
  have hA := h.same (w' := w.alloc (.cells #[.int .i64 0, .int .u64 0] 34)) ((Mod.refl _ _).alloc _)
  have HH := Lib.hid (has_past B s (f : Int) _ hA)
  rw [s.there_nat, decide_eq_true hf] at HH
  have HT := Lib.hid (fun w => has_any t (f : Int) w ht)
  rw [g2] at HT
  have HAll := Lib.hid (fun w => all_any (s.n : Int) w)
  have HW := Lib.hid (fun w => within_any t (allOf s.n) w ht (allOf_lt _))
  rw [decide_eq_true g3] at HW
  obtain ⟨A, k, hav⟩ := h.all.form
  obtain ⟨c0, c1, c2, _, _⟩ := h.cells
  rw [hav] at c0
  have ck := h.kcell hf
  have cc := h.ccell hf
  have fcc := blk_frozen h.crow f
  have hBz := blk_lt h.top
  have hcz := blk_lt h.crow
  have hkz := blk_lt h.krow
  have hmm := @run_makeMap Try.prog
  have hn1 : B ≠ s.cB := blk_ne h.top h.crow (by decide)
  have hn2 : s.kB ≠ s.cB := blk_ne h.krow h.crow (by decide)
  have hcb : cnt s.all f ≤ 1000 := Nat.le_trans (List.length_filter_le _ _) (by omega)
  have hi0 : (0 : Int) ≤ (f : Int) := by omega
  have hi1 : (f : Int) < (s.n : Int) := by omega
  have tl : decide ((1000 : Int) ≤ (s.all.length : Int)) = false := decide_eq_false (by omega)
  have HP := Lib.hid h
  have HAV := Lib.hid hav
  have HL := Lib.hid hl
  obtain ⟨c, hc⟩ : ∃ c, c = cnt s.all f := ⟨_, rfl⟩
  have HC := Lib.hid hc
  rw [← hc] at cc hcb
  have hc0 : (0 : Int) ≤ (c : Int) := by omega
  have hc1 : (c : Int) ≤ 1000 := by omega
  clear h hA hav hl hc g2 g3 hg
  go_enter Try.func11, Try.ntmps11
  go_wp2_with fail
  refine HH.out.mono ?_
  rintro e w1 ⟨rfl, rfl⟩
  go_wp2_with fail
  refine (HT.out _).mono ?_
  rintro e w1 ⟨rfl, rfl⟩
  go_wp2_with fail
  refine (HAll.out _).mono ?_
  rintro e w1 ⟨rfl, rfl⟩
  go_wp2_with fail
  refine (HW.out _).mono ?_
  rintro e w1 ⟨rfl, rfl⟩
  go_wp2_with fail
  have HS1 := Lib.hid (SendW.start HP.out f t c)
  clear c0 c1 c2 ck cc fcc
  generalize (((w.setCell ⟨s.cB, f, none⟩ (.int .u64 ((c : Int) + 1))).alloc (.cells #[.int .i64 0, .int .u64 0] 34)).alloc (.map #[] 0)).alloc (.cells #[.int .i64 (f : Int), .int .u64 ((c : Int) + 1), .int .u64 (t : Int), .map (some (w.heap.size + 1))] 73) = W1 at *
  have hP1 := HS1.out.md
  obtain ⟨_, c1, _⟩ := top_cells (hP1.blk HP.out.top hn1)
  have ck := (blk_cell (hP1.blk HP.out.krow hn2) f).trans (row_at (fun q => Value.map (some (s.kb q))) hf)
  obtain ⟨_, _, _, x3⟩ := four_cells HS1.out.x
  have hkS : SetsAt W1 (s.kb f) (s.knows f) := (HP.out.ks f hf).mod hP1 (fun e => by
    obtain ⟨ef, cf, mf⟩ := (HP.out.ks f hf).isMap
    exact ne_map HP.out.crow mf e.symm)
  have hMk : w.heap.size + 1 ≠ s.kb f := by have := (HP.out.ks f hf).lt_size; omega
  have HJ := Lib.hid (join_any (w.heap.size + 1) (s.kb f) _ _ W1.drew HS1.out.m hkS hMk)
  clear hP1 hkS
  go_still_tail 9, (by kernel_rfl)
  change wpList _ _ _ _ _ W1.drew
  go_wp2_with fail
  refine HJ.out.mono ?_
  rintro e W2 ⟨rfl, hset, hm⟩
  simp only [Bool.false_or] at hset
  have HM12 : Hid (Mod (· = w.heap.size + 1) W1 W2) := ((Mod.refl _ W1).drew).trans hm
  have HS2 : Hid (SendW w s f t c (· = s.cB) (s.knows f) W2) := HS1.out.next HM12.out (by omega) (by omega) (by omega) hset (fun i hi e => by
    rcases e with e | e
    · exact e
    · omega)
  have hP2 := HS2.out.md
  obtain ⟨c0, c1, _⟩ := top_cells (hP2.blk HP.out.top hn1)
  rw [HAV.out] at c0
  have ck := (blk_cell (hP2.blk HP.out.krow hn2) f).trans (row_at (fun q => Value.map (some (s.kb q))) hf)
  have hkS : SetsAt W2 (s.kb f) (s.knows f) := (HP.out.ks f hf).mod hP2 (fun e => by
    obtain ⟨ef, cf, mf⟩ := (HP.out.ks f hf).isMap
    exact ne_map HP.out.crow mf e.symm)
  obtain ⟨W3, hrun, hset3, hg3, hz3⟩ := SetAt.store (w := W2.drew) hkS Try.underlying3 Try.underlying4 Try.underlying71 s.all.length HL.out
  have HM23 : Hid (Mod (· = s.kb f) W2 W3) := ((Mod.refl (· = s.kb f) W2).drew).trans (Mod.of_grown (S := (· = s.kb f)) hg3 (fun k e _ => by cases e; rfl))
  have HK3 := Lib.hid hset3
  have HS3 : Hid (SendW w s f t c (fun b => b = s.cB ∨ b = s.kb f) (s.knows f) W3) := HS2.out.next HM23.out (by have := (HP.out.ks f hf).lt_size; omega) (by have := (HP.out.ks f hf).lt_size; omega) (fun e => by
    obtain ⟨ef, cf, mf⟩ := (HP.out.ks f hf).isMap
    exact ne_map HP.out.crow mf e.symm) (HS2.out.m.mod HM23.out hMk) (fun i _ e => e)
  clear hm hset hP2 hkS hset3 hg3 hz3 HJ HS1 x3
  go_wp2_with fail
  go_still_tail 12, (by kernel_rfl)
  change wpList _ _ _ _ _ W2.drew
  go_wp2_with fail
  clear hrun c0 c1 ck
  obtain ⟨i0, hii, hz0, hz1, hz2⟩ := info_parts Try.infoSent
  have hB3 : W3.heap[B]? = some (.cells s.top 69 (0, 0)) := HS3.out.md.blk HP.out.top (fun e => e.elim hn1 (fun e => by
    obtain ⟨ef, cf, mf⟩ := (HP.out.ks f hf).isMap
    exact ne_map HP.out.top mf e))
  have hR3 : RowOf W3 73 4 s.av s.all.length (s.all.flatMap Ms.cells) := HP.out.all.mod HS3.out.md (fun b hb e => by
    obtain ⟨ef, cf, mf⟩ := (HP.out.ks f hf).isMap
    rcases e with e | e
    · exact row_ne HP.out.all HP.out.crow (by decide) b hb e
    · exact row_map HP.out.all mf b hb e)
  unfold Pa.top at hB3
  have HNB : Hid (∀ q, s.av.ownBlock = some q → B ≠ q) := fun q hq e => row_ne HP.out.all HP.out.top (by decide) q hq e.symm
  have HNX : Hid (∀ q, s.av.ownBlock = some q → w.heap.size + 1 + 1 ≠ q) := fun q hq e => by have := HP.out.all.lt hq; omega
  have HNR : Hid (∀ q, s.av.ownBlock = some q → w.heap.size ≠ q) := fun q hq e => by have := HP.out.all.lt hq; omega
  rw [HAV.out] at hB3 hR3 HNB HNX HNR
  have HB3 := Lib.hid hB3
  have HR3 := Lib.hid hR3
  have HX3 := Lib.hid HS3.out.x
  have HRR3 := Lib.hid HS3.out.r
  clear hB3 hR3
  refine wp_region_part (S := fun w' => w'.cell? ⟨B, 0, none⟩ = some (.slice A s.all.length k) ∧ w'.frozen? ⟨B, 0, none⟩ = false ∧ w'.cell? ⟨w.heap.size + 1 + 1, 0, none⟩ = some (.int .i64 (f : Int)) ∧ w'.cell? ⟨w.heap.size + 1 + 1, 1, none⟩ = some (.int .u64 ((c : Int) + 1)) ∧ w'.cell? ⟨w.heap.size + 1 + 1, 2, none⟩ = some (.int .u64 (t : Int)) ∧ w'.cell? ⟨w.heap.size + 1 + 1, 3, none⟩ = some (.map (some (w.heap.size + 1)))) [10] (by kernel_rfl) ?_ (fun hHeld => ?_)
  · exact send_cells (w := W3.drew) HB3.out HX3.out
  have HU0 : Hid (Mod (fun _ => False) W3 W3.drew) := (Mod.refl _ _).drew
  change Hid (W3.drew.heap[B]? = _) at HB3
  change Hid (W3.drew.heap[w.heap.size + 1 + 1]? = _) at HX3
  change Hid (W3.drew.heap[w.heap.size]? = _) at HRR3
  change Hid (RowOf W3.drew _ _ _ _ _) at HR3
  generalize W3.drew = u0 at *
  refine wpPart_take (i := 0) (oi := { dst := some 86, op := Op.move (Operand.tmp 0), type := 24, pos := "past.go:80", after := #[], guard := none }) (v := ?_) rfl (by kernel_rfl) (by kernel_rfl) (by kernel_rfl) (by kernel_rfl) (by kernel_rfl) (fun _ _ _ h => h) (Or.inl ⟨by rfl, ?_⟩) (by assumption) ?_
  rotate_left
  · intro w hSw; (try dsimp only at hSw); go_simp <;> with_reducible rfl
  try simp only [Act.put, List.setIfInBounds_toArray, List.set_cons_zero, List.set_cons_succ]
  refine wpPart_take (i := 1) (oi := { dst := some 87, op := Op.move (Operand.tmp 0), type := 24, pos := "past.go:80", after := #[], guard := none }) (v := ?_) rfl (by kernel_rfl) (by kernel_rfl) (by kernel_rfl) (by kernel_rfl) (by kernel_rfl) (fun _ _ _ h => h) (Or.inl ⟨by rfl, ?_⟩) (by assumption) ?_
  rotate_left
  · intro w hSw; (try dsimp only at hSw); go_simp <;> with_reducible rfl
  try simp only [Act.put, List.setIfInBounds_toArray, List.set_cons_zero, List.set_cons_succ]
  refine wpPart_take (i := 2) (oi := { dst := some 88, op := Op.nilCheck (Operand.tmp 87), type := 0, pos := "past.go:80", after := #[{ on := 1, ground := Ground.data }], guard := none }) (v := ?_) rfl (by kernel_rfl) (by kernel_rfl) (by kernel_rfl) (by kernel_rfl) (by kernel_rfl) (fun _ _ _ h => h) (Or.inl ⟨by rfl, ?_⟩) (by assumption) ?_
  rotate_left
  · intro w hSw; (try dsimp only at hSw); go_simp <;> with_reducible rfl
  try simp only [Act.put, List.setIfInBounds_toArray, List.set_cons_zero, List.set_cons_succ]
  refine wpPart_take (i := 3) (oi := { dst := some 89, op := Op.fieldAddr 69 (Operand.tmp 88) 0, type := 0, pos := "past.go:80", after := #[{ on := 2, ground := Ground.data }], guard := none }) (v := ?_) rfl (by kernel_rfl) (by kernel_rfl) (by kernel_rfl) (by kernel_rfl) (by kernel_rfl) (fun _ _ _ h => h) (Or.inl ⟨by rfl, ?_⟩) (by assumption) ?_
  rotate_left
  · intro w hSw; (try dsimp only at hSw); go_simp <;> with_reducible rfl
  try simp only [Act.put, List.setIfInBounds_toArray, List.set_cons_zero, List.set_cons_succ]
  refine wpPart_take (i := 4) (oi := { dst := some 90, op := Op.load 67 (Operand.tmp 89), type := 67, pos := "past.go:80", after := #[{ on := 3, ground := Ground.data }], guard := none }) (v := ?_) rfl (by kernel_rfl) (by kernel_rfl) (by kernel_rfl) (by kernel_rfl) (by kernel_rfl) (fun _ _ _ h => h) (Or.inl ⟨by rfl, ?_⟩) (by assumption) ?_
  rotate_left
  · intro w hSw; (try dsimp only at hSw); go_simp <;> with_reducible rfl
  try simp only [Act.put, List.setIfInBounds_toArray, List.set_cons_zero, List.set_cons_succ]
  refine wpPart_take (i := 5) (oi := { dst := some 91, op := Op.load 73 (Operand.tmp 8), type := 73, pos := "past.go:80", after := #[], guard := none }) (v := ?_) rfl (by kernel_rfl) (by kernel_rfl) (by kernel_rfl) (by kernel_rfl) (by kernel_rfl) (fun _ _ _ h => h) (Or.inl ⟨by rfl, ?_⟩) (by assumption) ?_
  rotate_left
  · intro w hSw; (try dsimp only at hSw); go_simp <;> with_reducible rfl
  try simp only [Act.put, List.setIfInBounds_toArray, List.set_cons_zero, List.set_cons_succ]
  refine wpPart_ready (rs := [6]) (by kernel_rfl) (by simp) ?_
  refine AllPart.cons (o := { dst := some 92, op := Op.buildSlice 67 1 #[(0, Operand.tmp 91)], type := 67, pos := "past.go:80", after := #[{ on := 5, ground := Ground.data }], guard := none }) rfl (by kernel_rfl) (fun K hK => ?_) AllPart.nil
  go_simp
  refine hK.out _ _ ?_ (fun hHeld => ?_)
  · first | exact hS1 | exact send_cells (blk_alloc HB3.out _) (blk_alloc HX3.out _)
  clear hK K
  try simp only [Act.put, List.setIfInBounds_toArray, List.set_cons_zero, List.set_cons_succ]
  refine wpPart_ready (rs := [7]) (by kernel_rfl) (by simp) ?_
  refine AllPart.cons (o := { dst := some 93, op := Op.call { callee := Callee.builtin Builtin.append, args := #[Operand.tmp 90, Operand.tmp 92], argTypes := #[67, 67] }, type := 67, pos := "past.go:80", after := #[{ on := 4, ground := Ground.data }, { on := 6, ground := Ground.data }], guard := none }) rfl (by kernel_rfl) (fun K hK => ?_) AllPart.nil
  refine step_append_row (by rfl) _ _ 67 (by rfl) i0 (.agg #[.int .i64 0, .int .u64 0, .int .u64 0, .map none]) 32 Try.underlying67 hii hz0 hz1 hz2 (by rfl) (by omega) (by rfl) (HR3.out.alloc _) (all_one _) _ 1 [.int .i64 (f : Int), .int .u64 ((c : Int) + 1), .int .u64 (t : Int), .map (some (w.heap.size + 1))] (by rfl) (src_four _ _ _ _ _ _ (by simp [Value.oneCell'])) (by have := HL.out; unfold maxLen; omega) (by have := HL.out; omega) ?_
  intro av2 u2 hrow hgrow hat
  have hS1 := send_cells (blk_grown (blk_alloc HB3.out _) hgrow HNB.out) (blk_grown (blk_alloc HX3.out _) hgrow HNX.out)
  obtain ⟨A5, k5, rfl⟩ := hrow.form
  refine hK.out _ _ ?_ (fun hHeld => ?_)
  · first | exact hS1 | exact send_cells (blk_alloc HB3.out _) (blk_alloc HX3.out _)
  clear hK K
  try simp only [Act.put, List.setIfInBounds_toArray, List.set_cons_zero, List.set_cons_succ]
  clear hS1
  refine wpPart_ready (rs := [8]) (by kernel_rfl) (by simp) ?_
  refine AllPart.cons (o := { dst := some 94, op := Op.nilCheck (Operand.tmp 86), type := 0, pos := "past.go:80", after := #[{ on := 0, ground := Ground.data }, { on := 0, ground := Ground.phase }, { on := 1, ground := Ground.phase }, { on := 2, ground := Ground.phase }, { on := 3, ground := Ground.phase }, { on := 4, ground := Ground.phase }, { on := 5, ground := Ground.phase }, { on := 6, ground := Ground.phase }, { on := 7, ground := Ground.phase }], guard := none }) rfl (by kernel_rfl) (fun K hK => ?_) AllPart.nil
  go_simp
  refine hK.out _ _ ?_ (fun hHeld => ?_)
  · assumption
  clear hK K
  try simp only [Act.put, List.setIfInBounds_toArray, List.set_cons_zero, List.set_cons_succ]
  refine wpPart_take (i := 9) (oi := { dst := some 95, op := Op.fieldAddr 69 (Operand.tmp 94) 0, type := 0, pos := "past.go:80", after := #[{ on := 8, ground := Ground.data }, { on := 0, ground := Ground.phase }, { on := 1, ground := Ground.phase }, { on := 2, ground := Ground.phase }, { on := 3, ground := Ground.phase }, { on := 4, ground := Ground.phase }, { on := 5, ground := Ground.phase }, { on := 6, ground := Ground.phase }, { on := 7, ground := Ground.phase }], guard := none }) (v := ?_) rfl (by kernel_rfl) (by kernel_rfl) (by kernel_rfl) (by kernel_rfl) (by kernel_rfl) (fun _ _ _ h => h) (Or.inl ⟨by rfl, ?_⟩) (by assumption) ?_
  rotate_left
  · intro w hSw; (try dsimp only at hSw); go_simp <;> with_reducible rfl
  try simp only [Act.put, List.setIfInBounds_toArray, List.set_cons_zero, List.set_cons_succ]
  refine wpPart_ready (rs := [10]) (by kernel_rfl) (by simp) ?_
  refine AllPart.last (o := { dst := none, op := Op.store 67 (Operand.tmp 95) (Operand.tmp 93), type := 0, pos := "past.go:80", after := #[{ on := 9, ground := Ground.data }, { on := 7, ground := Ground.data }, { on := 7, ground := Ground.chain }, { on := 0, ground := Ground.phase }, { on := 1, ground := Ground.phase }, { on := 2, ground := Ground.phase }, { on := 3, ground := Ground.phase }, { on := 4, ground := Ground.phase }, { on := 5, ground := Ground.phase }, { on := 6, ground := Ground.phase }, { on := 7, ground := Ground.phase }], guard := none }) rfl (by kernel_rfl) (fun K hK => ?_) AllPart.nil
  have hc := hHeld.1
  have hf := hHeld.2.1
  go_simp
  refine hK.out _ _ ?_
  clear hK K
  try simp only [Act.put, List.setIfInBounds_toArray, List.set_cons_zero, List.set_cons_succ]
  clear hc hf
  refine wpPart_done (by kernel_rfl) ?_ _
  have hRne : ∀ b, (Value.slice A5 (s.all.length + 1) k5).ownBlock = some b → b ≠ B ∧ b ≠ w.heap.size := fun b hb => by
    rcases hat with e | e
    · rw [e] at hb
      exact ⟨fun e => HNB.out b hb e.symm, fun e => HNR.out b hb e.symm⟩
    · rw [e] at hb
      cases hb
      have h1 := blk_lt HX3.out
      have e2 : (u0.alloc (.cells #[.int .i64 (f : Int), .int .u64 ((c : Int) + 1), .int .u64 (t : Int), .map (some (w.heap.size + 1))] 73)).heap.size = u0.heap.size + 1 := by simp
      rw [e2]
      exact ⟨by omega, by omega⟩
  have hx2 := blk_grown (blk_alloc HX3.out _) hgrow HNX.out
  have hr2 := blk_grown (blk_alloc HRR3.out _) hgrow HNR.out
  have hb2 := blk_grown (blk_alloc HB3.out _) hgrow HNB.out
  have hRB : w.heap.size ≠ B := by omega
  have hXB : w.heap.size + 1 + 1 ≠ B := by omega
  have hXR : w.heap.size + 1 + 1 ≠ w.heap.size := by omega
  have hx3 := blk_far hx2 (p := ⟨B, 0, none⟩) hXB (.slice A5 (s.all.length + 1) k5)
  have hr3 := blk_far hr2 (p := ⟨B, 0, none⟩) hRB (.slice A5 (s.all.length + 1) k5)
  have hb3 := (blk_set hb2 0 (.slice A5 (s.all.length + 1) k5)).trans rfl
  have HZ : Hid ((((u2.setCell ⟨B, 0, none⟩ (.slice A5 (s.all.length + 1) k5)).setCell ⟨w.heap.size, 0, none⟩ (.int .i64 (f : Int))).setCell ⟨w.heap.size, 1, none⟩ (.int .u64 ((c : Int) + 1))).heap[w.heap.size]? = some (.cells #[.int .i64 (f : Int), .int .u64 ((c : Int) + 1)] 34 (0, 0))) := (blk_set (blk_set hr3 0 _) 1 _).trans rfl
  have HT3 : Hid ((((u2.setCell ⟨B, 0, none⟩ (.slice A5 (s.all.length + 1) k5)).setCell ⟨w.heap.size, 0, none⟩ (.int .i64 (f : Int))).setCell ⟨w.heap.size, 1, none⟩ (.int .u64 ((c : Int) + 1))).heap[B]? = some (.cells (s.sent f t (w.heap.size + 1) (.slice A5 (s.all.length + 1) k5)).top 69 (0, 0))) :=
    blk_far (blk_far hb3 (p := ⟨w.heap.size, 0, none⟩) (Ne.symm hRB) _) (p := ⟨w.heap.size, 1, none⟩) (Ne.symm hRB) _
  have HMZ : Hid (Mod (fun b => b = B ∨ b = w.heap.size) u2 (((u2.setCell ⟨B, 0, none⟩ (.slice A5 (s.all.length + 1) k5)).setCell ⟨w.heap.size, 0, none⟩ (.int .i64 (f : Int))).setCell ⟨w.heap.size, 1, none⟩ (.int .u64 ((c : Int) + 1)))) :=
    (((Mod.refl (fun b => b = B ∨ b = w.heap.size) u2).set (p := ⟨B, 0, none⟩) (fun _ => .inl rfl) _).set (p := ⟨w.heap.size, 0, none⟩) (fun _ => .inr rfl) _).set (p := ⟨w.heap.size, 1, none⟩) (fun _ => .inr rfl) _
  have hUA : Mod (fun _ => False) W3 (u0.alloc (.cells #[.int .i64 (f : Int), .int .u64 ((c : Int) + 1), .int .u64 (t : Int), .map (some (w.heap.size + 1))] 73)) := HU0.out.alloc _
  have HE := Lib.hid (send_end HP.out hf ht HL.out HC.out (HS3.out.none hUA) (HK3.out.mod hUA (fun x => x)) (by rw [HAV.out]; exact hgrow) hrow (by
    rw [HAV.out]
    refine hat.imp id (fun e => ⟨_, e, ?_⟩)
    have h1 := blk_lt HX3.out
    simp
    omega) HMZ.out HT3.out hRne)
  obtain ⟨y0, y1, _⟩ := four_cells hx3
  have f0 := blk_frozen hr3 0
  have f1 := blk_frozen hr3 1
  obtain ⟨r0, r1⟩ := two_cells hr3
  clear hx2 hr2 hb2 hx3 hr3 hb3 hUA hrow hgrow hat hRne hHeld HMZ HT3 HS2 HS3 hii hz0 hz1 hz2
  generalize u2.setCell ⟨B, 0, none⟩ (.slice A5 (s.all.length + 1) k5) = u3 at *
  go_wp2
  generalize (u3.setCell ⟨w.heap.size, 0, none⟩ (.int .i64 (f : Int))).setCell ⟨w.heap.size, 1, none⟩ (.int .u64 ((c : Int) + 1)) = W at *
  obtain ⟨z0, z1⟩ := two_cells HZ.out
  refine bodyPost_ret (v := .tuple #[.agg #[.int .i64 (f : Int), .int .u64 ((c : Int) + 1)], .int .i64 0]) (by simp [results, Try.results11, go_sem, z0, z1]) rfl HE.out
end Go.Proofs.Yteicceikaecfcaa
