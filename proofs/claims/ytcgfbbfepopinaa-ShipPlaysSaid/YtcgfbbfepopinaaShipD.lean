/-
  Package ship: fill.
-/
import Derived.Test.YtcgfbbfepopinaaShipC
import Derived.Test.YtcgfbbfepopinaaPart
namespace Go.Proofs.Ytcgfbbfepopinaa
open Go.RowKit Go.Shoal

/-- What fill leaves. -/
def FillEnd (w : World) (B pb : Nat) (ov wv : Value) (s : Shp) (e : Ending) (w' : World) : Prop :=
  ∃ v ov' wv', e = .returned v ∧ ShipAt w' B pb ov' wv' s.filled ∧ Mod (Foot B pb ov wv) w w' ∧ (∀ k, ov'.ownBlock = some k → ov.ownBlock = some k ∨ w.heap.size ≤ k) ∧ (∀ k, wv'.ownBlock = some k → wv.ownBlock = some k) ∧
    ItemsAt (fun q => w.heap.size ≤ q ∧ ¬ Foot B pb ov' wv' q) w' v s.news ∧ ∀ q, v.ownBlock = some q → w.heap.size ≤ q ∧ ¬ Foot B pb ov' wv' q
theorem FillRel.drewN {w wr : World} {B pb : Nat} {ov wv : Value} {s : Shp} {j : Nat} (h : FillRel w B pb ov wv s j wr) (n : Nat) : FillRel w B pb ov wv s j (wr.drewN n) := by
  obtain ⟨a, b, h1, h2, h3⟩ := h
  exact ⟨a, b, h1, h2.drewN n, h3⟩
theorem Shp.goes_step {s : Shp} {j : Nat} (h : j < s.goes) : j < s.waits.length ∧ s.out.length + j < s.win := by
  unfold Shp.goes at h
  omega
theorem Shp.fillN_len (s : Shp) {j : Nat} (h : j ≤ s.goes) : (s.fillN j).out.length = s.out.length + j ∧ (s.fillN j).waits.length = s.waits.length - j := by
  unfold Shp.goes at h
  refine ⟨?_, List.length_drop⟩
  show (s.out ++ numbered s.last (s.waits.take j)).length = _
  rw [List.length_append, numbered_length, List.length_take, Nat.min_eq_left (by omega)]
theorem fill_cells {w : World} {B rb ro : Nat} {c0 c1 c2 c3 c4 c5 bv : Value} {cu : Array Value} {t t' : TypeId} (hB : w.heap[B]? = some (.cells #[c0, c1, c2, c3, c4, c5] t (0, 0))) (hr : w.heap[rb]? = some (.cells cu t' (0, 0))) (hc : cu[ro]? = some bv) :
    w.cell? ⟨B, 3, none⟩ = some c3 ∧ w.cell? ⟨B, 4, none⟩ = some c4 ∧ w.cell? ⟨B, 5, none⟩ = some c5 ∧ w.cell? ⟨rb, ro, none⟩ = some bv ∧ w.frozen? ⟨B, 3, none⟩ = false :=
  ⟨(blk_cell hB 3).trans rfl, (blk_cell hB 4).trans rfl, (blk_cell hB 5).trans rfl, (blk_cell hr ro).trans hc, blk_frozen hB 3⟩
/-- out[was:]. -/
def Sliced (v : Value) (was n k : Nat) (tv : Value) : Prop :=
  (v = .slice none 0 0 ∧ tv = .slice none 0 0 ∧ was = 0 ∧ n = 0) ∨ ∃ b o, v = .slice (some ⟨b, o, none⟩) (was + n) k ∧ tv = .slice (some ⟨b, if k = was then o else o + was * 2, none⟩) n (k - was)
theorem news_of {W : World} {ov tv : Value} {s : Shp} {k : Nat} (hn : (s.fillN s.goes).out.length = s.out.length + s.goes) (h : ItemsAt anyN W ov (s.fillN s.goes).out) (hs : Sliced ov s.out.length s.goes k tv) : ItemsAt anyN W tv s.news := by
  have hnl : s.news.length = s.goes := by unfold Shp.news; rw [numbered_length, List.length_take]; unfold Shp.goes; omega
  rcases hs with ⟨h1, h2, h3, h4⟩ | ⟨b, o, h1, h2⟩
  · subst h2
    rw [List.eq_nil_of_length_eq_zero (hnl.trans h4)]
    exact ⟨[], rfl, RowOf.nil _ _ _, fun p hp => (by cases hp)⟩
  · obtain ⟨l', e1, e2, e3⟩ := h
    rw [h1, hn] at e2
    have e4 := RowOf.drop s.out.length e2 (by omega)
    rw [Nat.add_sub_cancel_left, ← h2] at e4
    refine ⟨l'.drop s.out.length, ?_, ?_, fun p hp => e3 p (List.mem_of_mem_drop hp)⟩
    · rw [List.map_drop, e1]
      show (s.out ++ s.news).drop s.out.length = s.news
      exact List.drop_left
    · rw [hnl]
      have : flat (l'.drop s.out.length) = (flat l').drop (s.out.length * 2) := by
        have h5 : flat (l'.take s.out.length) ++ flat (l'.drop s.out.length) = flat l' := by rw [← flat_append, List.take_append_drop]
        have hll : l'.length = s.out.length + s.goes := by rw [← hn, ← e1, List.length_map]
        have h6 : (flat (l'.take s.out.length)).length = s.out.length * 2 := by rw [flat_length, List.length_take, Nat.min_eq_left (by omega)]
        rw [← h5, ← h6]
        exact List.drop_left.symm
      rw [this]
      exact e4
theorem fill_end {w wS w2 : World} {B pb : Nat} {ov wv ov1 wv1 v : Value} {s : Shp} (hS : ShipAt wS B pb ov1 wv1 s.filled) (hM : Mod (Foot B pb ov wv) w wS) (ho : ∀ k, ov1.ownBlock = some k → ov.ownBlock = some k ∨ w.heap.size ≤ k) (hwo : ∀ k, wv1.ownBlock = some k → wv.ownBlock = some k)
    (hT : ToldRel wS s.news s.news.length v w2) : FillEnd w B pb ov wv s (.returned v) w2 := by
  obtain ⟨h1, h2, h3⟩ := hT
  rw [List.take_length] at h1
  have hlt := hS.foot_lt
  have hN : ∀ q, wS.heap.size ≤ q → w.heap.size ≤ q ∧ ¬ Foot B pb ov1 wv1 q := fun q hq => ⟨Nat.le_trans hM.size hq, fun hF => by have := hlt q hF; omega⟩
  exact ⟨v, ov1, wv1, rfl, hS.none h3, hM.trans' h3 (fun _ _ x => x.elim), ho, hwo, h1.mono (fun q _ hq => hN q hq), fun q hq => hN q (h2 q hq)⟩
set_option maxRecDepth 100000 in
set_option maxHeartbeats 1600000 in
theorem fill_any (w : World) (B pb : Nat) (ov wv : Value) (s : Shp) (h : ShipAt w B pb ov wv s) (hf : s.Fit) (hw : s.win ≤ 16) : Calls Try.prog 26 #[.pointer (some ⟨B, 0, none⟩)] w (FillEnd w B pb ov wv s) := by
  obtain ⟨i0, hii, hz0', hz1', hz2'⟩ := info_parts Try.infoItem
  have c3 := (blk_cell h.1 3).trans rfl
  have HF0 : Hid (FillRel w B pb ov wv s 0 w) := ⟨ov, wv, by rw [Shp.fillN_zero]; exact h, Mod.refl _ _, fun k hk => .inl hk, fun k hk => hk⟩
  have HF := Lib.hid hf
  have HH := Lib.hid h
  obtain ⟨A, c, hov⟩ : ∃ A c, ov = .slice A s.out.length c := by
    obtain ⟨l1, _, h1, _⟩ := h.2.2.1
    exact h1.form
  rw [hov] at c3
  have HOV := Lib.hid hov
  clear h hf hov
  go_enter Try.func26, Try.ntmps26
  go_wp2
  clear c3
  go_loopg [27] s.goes (fun g _ wr => ∃ j, j ≤ s.goes ∧ g = s.goes - j ∧ Hid (FillRel w B pb ov wv s j wr))
  case atStart => exact ⟨0, Nat.zero_le _, rfl, HF0⟩
  case round =>
    obtain ⟨j, hj, rfl, hR⟩ := hrel
    obtain ⟨ov1, wv1, hS, hM, ho, hwo⟩ := hR.out
    obtain ⟨n1, n2⟩ := s.fillN_len hj
    obtain ⟨lo, hl1, hl2, hl3⟩ := hS.2.2.1
    obtain ⟨A1, k1, hov1⟩ := hl2.form
    obtain ⟨lw, hw1, hw2, hw3⟩ := hS.2.2.2
    have c0 : wr.cell? ⟨B, 0, none⟩ = some (.int .i64 s.win) := (blk_cell hS.1 0).trans rfl
    have c3 : wr.cell? ⟨B, 3, none⟩ = some ov1 := (blk_cell hS.1 3).trans rfl
    have c4 : wr.cell? ⟨B, 4, none⟩ = some wv1 := (blk_cell hS.1 4).trans rfl
    have c5 : wr.cell? ⟨B, 5, none⟩ = some (.int .u64 ((s.last + j : Nat) : Int)) := (blk_cell hS.1 5).trans rfl
    have z5 := blk_frozen hS.1 5
    have HM := Lib.hid hM
    have HO := Lib.hid ho
    have HWO := Lib.hid hwo
    have HS := Lib.hid hS
    have HL1 := Lib.hid hl1
    have HL2 := Lib.hid hl2
    have HL3 := Lib.hid hl3
    have HOV1 := Lib.hid hov1
    rw [hov1] at c3
    rw [n1] at c3
    have HN1 := Lib.hid n1
    have hlast : s.last + j ≤ 2000000 := by have := HF.out.2.2.2.2; have := HF.out.2.1; unfold Shp.goes at hj; omega
    by_cases hgo : j < s.goes
    · obtain ⟨g1, g2⟩ := Shp.goes_step hgo
      obtain ⟨b, r, hbr⟩ : ∃ b r, s.waits.drop j = b :: r := by
        cases hd : s.waits.drop j with
        | nil => have := List.drop_eq_nil_iff.1 hd; omega
        | cons b r => exact ⟨b, r, rfl⟩
      have hfw : (s.fillN j).waits = b :: r := hbr
      rw [hfw] at hw1 hw2
      cases lw with
      | nil => cases hw1
      | cons pw lw =>
        simp only [List.map_cons, List.cons.injEq] at hw1
        obtain ⟨rb, ro, cap, cur, hwv1, hcur, hcap, hcells⟩ := hw2.at (by simp)
        obtain ⟨c', rfl⟩ : ∃ c', cap = c' + 1 := ⟨cap - 1, by simp at hcap; omega⟩
        have hbv := hw3 pw List.mem_cons_self
        rw [hw1.1] at hbv
        have e0 : wr.cell? ⟨rb, ro, none⟩ = some pw.2 := (blk_cell hcur _).trans (by have := hcells 0 (by simp); simpa using this)
        obtain ⟨Ab, cb, hpw⟩ := hbv.1.form
        rw [hpw] at e0
        rw [hwv1] at c4
        rw [List.length_cons] at c4
        have HBV := Lib.hid hbv
        have HPW := Lib.hid hpw
        have HWV1 := Lib.hid hwv1
        have HBR := Lib.hid hbr
        have t1 : decide ((0 : Int) < (r.length : Int) + 1) = true := decide_eq_true (by omega)
        have t2 : decide (s.out.length + j < s.win) = true := decide_eq_true g2
        have t3 : decide ((s.out.length : Int) + j < s.win) = true := decide_eq_true (by omega)
        have h1m : (1 : Int) ≤ (r.length : Int) + 1 := by omega
        clear hfw hw1 hw2 hw3 hcur hcap hcells hbv hpw hwv1 hbr hS hM ho hwo hl1 hl2 hl3 hov1 n1 n2 g1 g2
        go_wp2_with fail
        go_quiet (fail)
        have HSq : Hid (ShipAt (wr.drewN nq) B pb ov1 wv1 (s.fillN j)) := HS.out
        have HMq : Hid (Mod (Foot B pb ov wv) w (wr.drewN nq)) := HM.out.drewN nq
        have HL2q : Hid (RowOf (wr.drewN nq) 45 2 ov1 (s.fillN j).out.length (flat lo)) := HL2.out
        have HL3q : Hid (∀ p ∈ lo, BytesAt anyN (wr.drewN nq) p.2 p.1.body) := HL3.out
        have HBVq : Hid (BytesAt anyN (wr.drewN nq) pw.2 b) := HBV.out
        have e0q : (wr.drewN nq).cell? ⟨rb, ro, none⟩ = some (.slice Ab b.size cb) := e0
        have c3q : (wr.drewN nq).cell? ⟨B, 3, none⟩ = some (.slice A1 (s.out.length + j) k1) := c3
        have c4q : (wr.drewN nq).cell? ⟨B, 4, none⟩ = some (.slice (some ⟨rb, ro, none⟩) (r.length + 1) (c' + 1)) := c4
        have c5q : (wr.drewN nq).cell? ⟨B, 5, none⟩ = some (.int .u64 ((s.last + j : Nat) : Int)) := c5
        have z5q : (wr.drewN nq).frozen? ⟨B, 5, none⟩ = false := z5
        clear HS HM HL2 HL3 HBV e0 c0 c3 c4 c5 z5 hR
        generalize wr.drewN nq = wq at *
        go_wp2_with fail
        have e0s : (wq.setCell ⟨B, 5, none⟩ (.int .u64 ((s.last : Int) + j + 1))).cell? ⟨rb, ro, none⟩ = some (.slice Ab b.size cb) := by
          obtain ⟨lw', _, hrw, _⟩ := HSq.out.2.2.2
          obtain ⟨cu, hcu⟩ := hrw.block (b := rb) (by rw [HWV1.out]; rfl)
          rw [World.cell?_of_block (w := wq) (Below.heap_setCell wq _ _ rb (blk_ne hcu HSq.out.1 (by decide)))]
          exact e0q
        have h0m : (0 : Int) < (r.length : Int) + 1 := by omega
        have HBu : Hid ((wq.setCell ⟨B, 5, none⟩ (.int .u64 ((s.last : Int) + j + 1))).heap[B]? = some (.cells #[.int .i64 s.win, .int .i64 s.que, .pointer (some ⟨pb, 0, none⟩), ov1, wv1, .int .u64 ((s.last + j : Nat) + 1)] 69 (0, 0))) := (blk_set HSq.out.1 5 _).trans rfl
        have hku : KeepT [5, 31, 76, 45] wq (wq.setCell ⟨B, 5, none⟩ (.int .u64 ((s.last : Int) + j + 1))) := KeepT.set HSq.out.1 (by decide) _
        have HRu := Lib.hid (HSq.out.2.keepT hku (by decide) (by decide) (by decide) (by decide))
        have HMu : Hid (Mod (Foot B pb ov wv) w (wq.setCell ⟨B, 5, none⟩ (.int .u64 ((s.last : Int) + j + 1)))) := HMq.out.set (fun _ => .inl rfl) _
        have HL2u := Lib.hid (RowOf.keepT HL2q.out hku (by decide))
        have HL3u : Hid (∀ p ∈ lo, BytesAt anyN (wq.setCell ⟨B, 5, none⟩ (.int .u64 ((s.last : Int) + j + 1))) p.2 p.1.body) := fun p hp => (HL3q.out p hp).keepT hku (by decide)
        have HBVu := Lib.hid (HBVq.out.keepT hku (by decide))
        have c3s := (blk_cell HBu.out 3).trans rfl
        have c4s := (blk_cell HBu.out 4).trans rfl
        have c5s : (wq.setCell ⟨B, 5, none⟩ (.int .u64 ((s.last : Int) + j + 1))).cell? ⟨B, 5, none⟩ = some (.int .u64 ((s.last : Int) + j + 1)) := (blk_cell HBu.out 5).trans rfl
        rw [HOV1.out, HN1.out] at c3s
        rw [HWV1.out, List.length_cons] at c4s
        clear hku HSq HMq HL2q HL3q HBVq e0q c3q c4q c5q z5q
        generalize wq.setCell ⟨B, 5, none⟩ (.int .u64 ((s.last : Int) + j + 1)) = u0 at *
        obtain ⟨cu, hcu, hcc⟩ : ∃ cu, u0.heap[rb]? = some (Obj.cells cu 31 (0, 0)) ∧ cu[ro]? = some (.slice Ab b.size cb) := by
          obtain ⟨lw', _, hrw, _⟩ := HRu.out.2.2
          obtain ⟨cu, hcu⟩ := hrw.block (b := rb) (by rw [HWV1.out]; rfl)
          exact ⟨cu, hcu, by rw [← blk_cell hcu ro]; exact e0s⟩
        have HNE : Hid (∀ q, ov1.ownBlock = some q → B ≠ q) := fun q hq e => by
          obtain ⟨cu, hcu⟩ := HL2u.out.block hq
          rw [← e, HBu.out] at hcu
          cases hcu
        have HNR : Hid (∀ q, ov1.ownBlock = some q → rb ≠ q) := fun q hq e => by
          obtain ⟨cu', hcu'⟩ := HL2u.out.block hq
          rw [← e, hcu] at hcu'
          cases hcu'
        have hlen : s.out.length + j ≤ 16 := by unfold Shp.goes at hgo; omega
        have HOV1' := HOV1.out
        rw [HN1.out] at HOV1'
        have HPW' := HPW.out
        have HWV1' := HWV1.out
        rw [List.length_cons] at HWV1'
        clear HOV1
        subst HOV1'
        have HL2v := HL2u.out
        rw [HN1.out] at HL2v
        have HL2w : Hid (RowOf u0.drew 45 2 _ _ _) := HL2v
        rw [HPW'] at HBVu
        have HBu2 : Hid (u0.drew.heap[B]? = some (Obj.cells #[.int .i64 s.win, .int .i64 s.que, .pointer (some ⟨pb, 0, none⟩), _, wv1, .int .u64 ((s.last : Int) + j + 1)] 69 (0, 0))) := HBu.out
        have HRu2 : Hid (ShipRest u0.drew pb _ wv1 (s.fillN j)) := HRu.out
        have HMu2 := Lib.hid HMu.out.drew
        have HL3u2 : Hid (∀ p ∈ lo, BytesAt anyN u0.drew p.2 p.1.body) := HL3u.out
        have HBVu2 : Hid (BytesAt anyN u0.drew (.slice Ab b.size cb) b) := HBVu.out
        have HCU : Hid (u0.drew.heap[rb]? = some (Obj.cells cu 31 (0, 0))) := hcu
        have HCC := Lib.hid hcc
        have HBw := Lib.hid HBu2.out
        rw [HWV1'] at HBu2
        clear e0s c3s c4s c5s HBu HRu HMu HL2u HL3u HBVu HL2v hcu hcc
        refine wp_region_part (S := fun w' => w'.cell? ⟨B, 3, none⟩ = some (.slice A1 (s.out.length + j) k1) ∧ w'.cell? ⟨B, 4, none⟩ = some (.slice (some ⟨rb, ro, none⟩) (r.length + 1) (c' + 1)) ∧ w'.cell? ⟨B, 5, none⟩ = some (.int .u64 ((s.last : Int) + j + 1)) ∧ w'.cell? ⟨rb, ro, none⟩ = some (.slice Ab b.size cb) ∧ w'.frozen? ⟨B, 3, none⟩ = false) [20] (by kernel_rfl) ?_ (fun hHeld => ?_)
        · exact fill_cells HBu2.out HCU.out HCC.out
        generalize u0.drew = u at *
        refine wpPart_take (i := 0) (oi := { dst := some 34, op := Op.move (Operand.tmp 0), type := 24, pos := "ship.go:58", after := #[], guard := none }) (v := ?_) rfl (by kernel_rfl) (by kernel_rfl) (by kernel_rfl) (by kernel_rfl) (by kernel_rfl) (fun _ _ _ h => h) (Or.inl ⟨by rfl, ?_⟩) (by assumption) ?_
        rotate_left
        · intro w hSw; (try dsimp only at hSw); go_simp <;> with_reducible rfl
        try simp only [Act.put, List.setIfInBounds_toArray, List.set_cons_zero, List.set_cons_succ]
        refine wpPart_take (i := 1) (oi := { dst := some 35, op := Op.move (Operand.tmp 0), type := 24, pos := "ship.go:58", after := #[], guard := none }) (v := ?_) rfl (by kernel_rfl) (by kernel_rfl) (by kernel_rfl) (by kernel_rfl) (by kernel_rfl) (fun _ _ _ h => h) (Or.inl ⟨by rfl, ?_⟩) (by assumption) ?_
        rotate_left
        · intro w hSw; (try dsimp only at hSw); go_simp <;> with_reducible rfl
        try simp only [Act.put, List.setIfInBounds_toArray, List.set_cons_zero, List.set_cons_succ]
        refine wpPart_take (i := 2) (oi := { dst := some 36, op := Op.nilCheck (Operand.tmp 35), type := 0, pos := "ship.go:58", after := #[{ on := 1, ground := Ground.data }], guard := none }) (v := ?_) rfl (by kernel_rfl) (by kernel_rfl) (by kernel_rfl) (by kernel_rfl) (by kernel_rfl) (fun _ _ _ h => h) (Or.inl ⟨by rfl, ?_⟩) (by assumption) ?_
        rotate_left
        · intro w hSw; (try dsimp only at hSw); go_simp <;> with_reducible rfl
        try simp only [Act.put, List.setIfInBounds_toArray, List.set_cons_zero, List.set_cons_succ]
        refine wpPart_take (i := 3) (oi := { dst := some 37, op := Op.fieldAddr 69 (Operand.tmp 36) 3, type := 0, pos := "ship.go:58", after := #[{ on := 2, ground := Ground.data }], guard := none }) (v := ?_) rfl (by kernel_rfl) (by kernel_rfl) (by kernel_rfl) (by kernel_rfl) (by kernel_rfl) (fun _ _ _ h => h) (Or.inl ⟨by rfl, ?_⟩) (by assumption) ?_
        rotate_left
        · intro w hSw; (try dsimp only at hSw); go_simp <;> with_reducible rfl
        try simp only [Act.put, List.setIfInBounds_toArray, List.set_cons_zero, List.set_cons_succ]
        refine wpPart_take (i := 4) (oi := { dst := some 38, op := Op.load 28 (Operand.tmp 37), type := 28, pos := "ship.go:58", after := #[{ on := 3, ground := Ground.data }], guard := none }) (v := ?_) rfl (by kernel_rfl) (by kernel_rfl) (by kernel_rfl) (by kernel_rfl) (by kernel_rfl) (fun _ _ _ h => h) (Or.inl ⟨by rfl, ?_⟩) (by assumption) ?_
        rotate_left
        · intro w hSw; (try dsimp only at hSw); go_simp <;> with_reducible rfl
        try simp only [Act.put, List.setIfInBounds_toArray, List.set_cons_zero, List.set_cons_succ]
        refine wpPart_take (i := 5) (oi := { dst := some 39, op := Op.move (Operand.tmp 0), type := 24, pos := "ship.go:58", after := #[], guard := none }) (v := ?_) rfl (by kernel_rfl) (by kernel_rfl) (by kernel_rfl) (by kernel_rfl) (by kernel_rfl) (fun _ _ _ h => h) (Or.inl ⟨by rfl, ?_⟩) (by assumption) ?_
        rotate_left
        · intro w hSw; (try dsimp only at hSw); go_simp <;> with_reducible rfl
        try simp only [Act.put, List.setIfInBounds_toArray, List.set_cons_zero, List.set_cons_succ]
        refine wpPart_take (i := 6) (oi := { dst := some 40, op := Op.nilCheck (Operand.tmp 39), type := 0, pos := "ship.go:58", after := #[{ on := 5, ground := Ground.data }], guard := none }) (v := ?_) rfl (by kernel_rfl) (by kernel_rfl) (by kernel_rfl) (by kernel_rfl) (by kernel_rfl) (fun _ _ _ h => h) (Or.inl ⟨by rfl, ?_⟩) (by assumption) ?_
        rotate_left
        · intro w hSw; (try dsimp only at hSw); go_simp <;> with_reducible rfl
        try simp only [Act.put, List.setIfInBounds_toArray, List.set_cons_zero, List.set_cons_succ]
        refine wpPart_take (i := 7) (oi := { dst := some 41, op := Op.fieldAddr 69 (Operand.tmp 40) 5, type := 0, pos := "ship.go:58", after := #[{ on := 6, ground := Ground.data }], guard := none }) (v := ?_) rfl (by kernel_rfl) (by kernel_rfl) (by kernel_rfl) (by kernel_rfl) (by kernel_rfl) (fun _ _ _ h => h) (Or.inl ⟨by rfl, ?_⟩) (by assumption) ?_
        rotate_left
        · intro w hSw; (try dsimp only at hSw); go_simp <;> with_reducible rfl
        try simp only [Act.put, List.setIfInBounds_toArray, List.set_cons_zero, List.set_cons_succ]
        refine wpPart_take (i := 8) (oi := { dst := some 42, op := Op.load 34 (Operand.tmp 41), type := 34, pos := "ship.go:58", after := #[{ on := 7, ground := Ground.data }], guard := none }) (v := ?_) rfl (by kernel_rfl) (by kernel_rfl) (by kernel_rfl) (by kernel_rfl) (by kernel_rfl) (fun _ _ _ h => h) (Or.inl ⟨by rfl, ?_⟩) (by assumption) ?_
        rotate_left
        · intro w hSw; (try dsimp only at hSw); go_simp <;> with_reducible rfl
        try simp only [Act.put, List.setIfInBounds_toArray, List.set_cons_zero, List.set_cons_succ]
        refine wpPart_take (i := 9) (oi := { dst := some 43, op := Op.move (Operand.tmp 0), type := 24, pos := "ship.go:58", after := #[], guard := none }) (v := ?_) rfl (by kernel_rfl) (by kernel_rfl) (by kernel_rfl) (by kernel_rfl) (by kernel_rfl) (fun _ _ _ h => h) (Or.inl ⟨by rfl, ?_⟩) (by assumption) ?_
        rotate_left
        · intro w hSw; (try dsimp only at hSw); go_simp <;> with_reducible rfl
        try simp only [Act.put, List.setIfInBounds_toArray, List.set_cons_zero, List.set_cons_succ]
        refine wpPart_take (i := 10) (oi := { dst := some 44, op := Op.nilCheck (Operand.tmp 43), type := 0, pos := "ship.go:58", after := #[{ on := 9, ground := Ground.data }], guard := none }) (v := ?_) rfl (by kernel_rfl) (by kernel_rfl) (by kernel_rfl) (by kernel_rfl) (by kernel_rfl) (fun _ _ _ h => h) (Or.inl ⟨by rfl, ?_⟩) (by assumption) ?_
        rotate_left
        · intro w hSw; (try dsimp only at hSw); go_simp <;> with_reducible rfl
        try simp only [Act.put, List.setIfInBounds_toArray, List.set_cons_zero, List.set_cons_succ]
        refine wpPart_take (i := 11) (oi := { dst := some 45, op := Op.fieldAddr 69 (Operand.tmp 44) 4, type := 0, pos := "ship.go:58", after := #[{ on := 10, ground := Ground.data }], guard := none }) (v := ?_) rfl (by kernel_rfl) (by kernel_rfl) (by kernel_rfl) (by kernel_rfl) (by kernel_rfl) (fun _ _ _ h => h) (Or.inl ⟨by rfl, ?_⟩) (by assumption) ?_
        rotate_left
        · intro w hSw; (try dsimp only at hSw); go_simp <;> with_reducible rfl
        try simp only [Act.put, List.setIfInBounds_toArray, List.set_cons_zero, List.set_cons_succ]
        refine wpPart_take (i := 12) (oi := { dst := some 46, op := Op.load 38 (Operand.tmp 45), type := 38, pos := "ship.go:58", after := #[{ on := 11, ground := Ground.data }], guard := none }) (v := ?_) rfl (by kernel_rfl) (by kernel_rfl) (by kernel_rfl) (by kernel_rfl) (by kernel_rfl) (fun _ _ _ h => h) (Or.inl ⟨by rfl, ?_⟩) (by assumption) ?_
        rotate_left
        · intro w hSw; (try dsimp only at hSw); go_simp <;> with_reducible rfl
        try simp only [Act.put, List.setIfInBounds_toArray, List.set_cons_zero, List.set_cons_succ]
        refine wpPart_take (i := 13) (oi := { dst := some 47, op := Op.indexAddr 38 (Operand.tmp 46) (Operand.const (Value.int IntKind.i64 0)), type := 0, pos := "ship.go:58", after := #[{ on := 12, ground := Ground.data }], guard := none }) (v := ?_) rfl (by kernel_rfl) (by kernel_rfl) (by kernel_rfl) (by kernel_rfl) (by kernel_rfl) (fun _ _ _ h => h) (Or.inl ⟨by rfl, ?_⟩) (by assumption) ?_
        rotate_left
        · intro w hSw; (try dsimp only at hSw); go_simp <;> with_reducible rfl
        try simp only [Act.put, List.setIfInBounds_toArray, List.set_cons_zero, List.set_cons_succ]
        refine wpPart_take (i := 14) (oi := { dst := some 48, op := Op.load 31 (Operand.tmp 47), type := 31, pos := "ship.go:58", after := #[{ on := 13, ground := Ground.data }], guard := none }) (v := ?_) rfl (by kernel_rfl) (by kernel_rfl) (by kernel_rfl) (by kernel_rfl) (by kernel_rfl) (fun _ _ _ h => h) (Or.inl ⟨by rfl, ?_⟩) (by assumption) ?_
        rotate_left
        · intro w hSw; (try dsimp only at hSw); go_simp <;> with_reducible rfl
        try simp only [Act.put, List.setIfInBounds_toArray, List.set_cons_zero, List.set_cons_succ]
        refine wpPart_take (i := 15) (oi := { dst := some 49, op := Op.build 45 #[(0, Operand.tmp 42), (1, Operand.tmp 48)], type := 45, pos := "ship.go:58", after := #[{ on := 8, ground := Ground.data }, { on := 14, ground := Ground.data }], guard := none }) (v := ?_) rfl (by kernel_rfl) (by kernel_rfl) (by kernel_rfl) (by kernel_rfl) (by kernel_rfl) (fun _ _ _ h => h) (Or.inl ⟨by rfl, ?_⟩) (by assumption) ?_
        rotate_left
        · intro w hSw; (try dsimp only at hSw); go_simp <;> with_reducible rfl
        try simp only [Act.put, List.setIfInBounds_toArray, List.set_cons_zero, List.set_cons_succ]
        refine wpPart_ready (rs := [16]) (by kernel_rfl) (by simp) ?_
        refine AllPart.cons (o := { dst := some 50, op := Op.buildSlice 28 1 #[(0, Operand.tmp 49)], type := 28, pos := "ship.go:58", after := #[{ on := 15, ground := Ground.data }], guard := none }) rfl (by kernel_rfl) (fun K hK => ?_) AllPart.nil
        go_simp
        refine hK.out _ _ ?_ (fun hHeld => ?_)
        · first | exact hS1 | exact fill_cells (blk_alloc HBu2.out _) (blk_alloc HCU.out _) HCC.out
        clear hK K
        try simp only [Act.put, List.setIfInBounds_toArray, List.set_cons_zero, List.set_cons_succ]
        refine wpPart_ready (rs := [17]) (by kernel_rfl) (by simp) ?_
        refine AllPart.cons (o := { dst := some 51, op := Op.call { callee := Callee.builtin Builtin.append, args := #[Operand.tmp 38, Operand.tmp 50], argTypes := #[28, 28] }, type := 28, pos := "ship.go:58", after := #[{ on := 4, ground := Ground.data }, { on := 16, ground := Ground.data }], guard := none }) rfl (by kernel_rfl) (fun K hK => ?_) AllPart.nil
        refine step_append_row (by rfl) _ _ 28 (by rfl) i0 (.agg #[.int .u64 0, .slice none 0 0]) 32 Try.underlying28 hii hz0' hz1' hz2' (by rfl) (by omega) (by rfl) (HL2w.out.alloc _) (flat_one HL3u2.out) _ 1 [.int .u64 ((s.last : Int) + j + 1), .slice Ab b.size cb] (by rfl) (SrcOk.block (blk_new u _) rfl (fun j u hu => by rw [Nat.zero_add]; simpa using hu) (by simp [Value.oneCell'])) (by unfold maxLen; omega) (by omega) ?_
        intro ov2 u2 hrow hgrow hat
        have hS1 := fill_cells (blk_grown (blk_alloc HBu2.out _) hgrow HNE.out) (blk_grown (blk_alloc HCU.out _) hgrow HNR.out) HCC.out
        obtain ⟨A5, k5, rfl⟩ := hrow.form
        refine hK.out _ _ ?_ (fun hHeld => ?_)
        · first | exact hS1 | exact fill_cells (blk_alloc HBu2.out _) (blk_alloc HCU.out _) HCC.out
        clear hK K
        try simp only [Act.put, List.setIfInBounds_toArray, List.set_cons_zero, List.set_cons_succ]
        clear hS1
        refine wpPart_ready (rs := [18]) (by kernel_rfl) (by simp) ?_
        refine AllPart.cons (o := { dst := some 52, op := Op.nilCheck (Operand.tmp 34), type := 0, pos := "ship.go:58", after := #[{ on := 0, ground := Ground.data }, { on := 0, ground := Ground.phase }, { on := 1, ground := Ground.phase }, { on := 2, ground := Ground.phase }, { on := 3, ground := Ground.phase }, { on := 4, ground := Ground.phase }, { on := 5, ground := Ground.phase }, { on := 6, ground := Ground.phase }, { on := 7, ground := Ground.phase }, { on := 8, ground := Ground.phase }, { on := 9, ground := Ground.phase }, { on := 10, ground := Ground.phase }, { on := 11, ground := Ground.phase }, { on := 12, ground := Ground.phase }, { on := 13, ground := Ground.phase }, { on := 14, ground := Ground.phase }, { on := 15, ground := Ground.phase }, { on := 16, ground := Ground.phase }, { on := 17, ground := Ground.phase }], guard := none }) rfl (by kernel_rfl) (fun K hK => ?_) AllPart.nil
        go_simp
        refine hK.out _ _ ?_ (fun hHeld => ?_)
        · assumption
        clear hK K
        try simp only [Act.put, List.setIfInBounds_toArray, List.set_cons_zero, List.set_cons_succ]
        refine wpPart_take (i := 19) (oi := { dst := some 53, op := Op.fieldAddr 69 (Operand.tmp 52) 3, type := 0, pos := "ship.go:58", after := #[{ on := 18, ground := Ground.data }, { on := 0, ground := Ground.phase }, { on := 1, ground := Ground.phase }, { on := 2, ground := Ground.phase }, { on := 3, ground := Ground.phase }, { on := 4, ground := Ground.phase }, { on := 5, ground := Ground.phase }, { on := 6, ground := Ground.phase }, { on := 7, ground := Ground.phase }, { on := 8, ground := Ground.phase }, { on := 9, ground := Ground.phase }, { on := 10, ground := Ground.phase }, { on := 11, ground := Ground.phase }, { on := 12, ground := Ground.phase }, { on := 13, ground := Ground.phase }, { on := 14, ground := Ground.phase }, { on := 15, ground := Ground.phase }, { on := 16, ground := Ground.phase }, { on := 17, ground := Ground.phase }], guard := none }) (v := ?_) rfl (by kernel_rfl) (by kernel_rfl) (by kernel_rfl) (by kernel_rfl) (by kernel_rfl) (fun _ _ _ h => h) (Or.inl ⟨by rfl, ?_⟩) (by assumption) ?_
        rotate_left
        · intro w hSw; (try dsimp only at hSw); go_simp <;> with_reducible rfl
        try simp only [Act.put, List.setIfInBounds_toArray, List.set_cons_zero, List.set_cons_succ]
        refine wpPart_ready (rs := [20]) (by kernel_rfl) (by simp) ?_
        refine AllPart.last (o := { dst := none, op := Op.store 28 (Operand.tmp 53) (Operand.tmp 51), type := 0, pos := "ship.go:58", after := #[{ on := 19, ground := Ground.data }, { on := 17, ground := Ground.data }, { on := 17, ground := Ground.chain }, { on := 0, ground := Ground.phase }, { on := 1, ground := Ground.phase }, { on := 2, ground := Ground.phase }, { on := 3, ground := Ground.phase }, { on := 4, ground := Ground.phase }, { on := 5, ground := Ground.phase }, { on := 6, ground := Ground.phase }, { on := 7, ground := Ground.phase }, { on := 8, ground := Ground.phase }, { on := 9, ground := Ground.phase }, { on := 10, ground := Ground.phase }, { on := 11, ground := Ground.phase }, { on := 12, ground := Ground.phase }, { on := 13, ground := Ground.phase }, { on := 14, ground := Ground.phase }, { on := 15, ground := Ground.phase }, { on := 16, ground := Ground.phase }, { on := 17, ground := Ground.phase }], guard := none }) rfl (by kernel_rfl) (fun K hK => ?_) AllPart.nil
        have hc := hHeld.1
        have hf := hHeld.2.2.2.2
        go_simp
        refine hK.out _ _ ?_
        clear hK K
        try simp only [Act.put, List.setIfInBounds_toArray, List.set_cons_zero, List.set_cons_succ]
        clear hc hf
        refine wpPart_done (by kernel_rfl) ?_ _
        have hr1 : RowOf u2 45 2 (.slice A5 (s.out.length + j + 1) k5) ((s.fillN j).out.length + 1) (flat lo ++ [.int .u64 ((s.last + j : Nat) + 1), .slice Ab b.size cb]) := by rw [HN1.out]; exact hrow
        have hB2 := blk_grown (blk_alloc HBw.out _) hgrow HNE.out
        have HN := Lib.hid (fill_next (c := c') HBR.out HWV1' (blk_alloc HBw.out _) (HRu2.out.alloc _) (HMu2.out.alloc _) HO.out HWO.out HL1.out (fun p hp => (HL3u2.out p hp).keepT (KeepT.alloc [5] _ _) (by decide)) (HBVu2.out.keepT (KeepT.alloc [5] _ _) (by decide)) hgrow hr1 (hat.imp id fun h => h.trans (by simp)))
        have f3 := blk_frozen hB2 3
        have f4 := blk_frozen hB2 4
        have d3 := (blk_cell hB2 3).trans rfl
        have d4 : u2.cell? ⟨B, 4, none⟩ = some (.slice (some ⟨rb, ro, none⟩) (r.length + 1) (c' + 1)) := by rw [blk_cell hB2 4, HWV1']; rfl
        clear hr1 hB2 hrow hgrow hat HPW' hHeld HWV1'
        by_cases hc0 : c' = 0
        · rw [if_pos hc0, hc0] at HN
          go_wp2
          go_roundg (s.goes - (j + 1))
          case measure => omega
          case rel =>
            exact ⟨j + 1, by omega, rfl, HN⟩
        · rw [if_neg hc0] at HN
          go_wp2
          go_roundg (s.goes - (j + 1))
          case measure => omega
          case rel =>
            exact ⟨j + 1, by omega, rfl, HN⟩
    · obtain rfl : j = s.goes := by omega
      have HE0 : Hid (∀ (W : World) (v : Value) (W2 : World), ShipAt W B pb ov1 wv1 s.filled → Mod (Foot B pb ov wv) w W → ToldRel W s.news s.news.length v W2 → FillEnd w B pb ov wv s (.returned v) W2) := fun W v W2 a1 a2 a3 => fill_end a1 a2 HO.out HWO.out a3
      have HNL : Hid (s.news.length ≤ 1000 ∧ ∀ x ∈ s.news, x.body.size ≤ 1000) := ⟨by unfold Shp.news; rw [numbered_length, List.length_take]; have := HF.out.2.1; omega, fun x hx => HF.out.2.2.2.1 _ (List.mem_of_mem_take (numbered_mem hx).2.2)⟩
      have HW3 := Lib.hid hw2.form
      obtain ⟨A2, k2, hwv1⟩ := hw2.form
      rw [hwv1] at c4
      have HWV := Lib.hid hwv1
      rw [n2] at c4
      have HTI : Hid (∀ W, ItemsAt anyN W ov1 (s.fillN s.goes).out → ∀ tv, Sliced ov1 s.out.length s.goes k1 tv → ItemsAt anyN W tv s.news) := fun W hI tv hs => news_of HN1.out hI hs
      have hnm : ∀ q : Nat, q = s.waits.length - s.goes → Hid (q = s.waits.length - s.goes) := fun q h => h
      have hcase : Hid (s.waits.length - s.goes = 0 ∨ (s.waits.length - s.goes ≠ 0 ∧ s.win ≤ s.out.length + s.goes)) := by
        show _ ∨ _
        unfold Shp.goes
        omega
      have HST : Hid ((s.fillN s.goes).out.length = s.out.length + s.goes) := n1
      generalize hwl : s.waits.length - s.goes = wl at c4 hcase
      have HPACE := Lib.hid (fun W (hp : PaceAt W pb s.p) => pace_start_any W pb s.p hp)
      clear hwl hnm n1 n2 hw1 hw2 hw3 hl1 hl2 hl3 hwv1 hM ho hwo c5 z5
      have c2 := (blk_cell hS.1 2).trans rfl
      clear hS
      have HFE : Hid (s.out.length + s.goes = 0 → s.filled = s.fillN s.goes) := fun h0 => by
        unfold Shp.filled
        rw [if_pos (List.eq_nil_of_length_eq_zero (by rw [HST.out, h0]))]
        rfl
      have HFS : Hid (0 < s.out.length + s.goes → s.filled = { s.fillN s.goes with p := s.p.start }) := fun h0 => by
        unfold Shp.filled
        rw [if_neg (fun e => by have := HST.out; rw [e] at this; simp at this; omega)]
      generalize s.goes = j at *
      generalize hso : s.out.length = so at *
      have hov : (A1 = none ∧ so + j = 0 ∧ k1 = 0) ∨ ∃ b o, A1 = some ⟨b, o, none⟩ ∧ so + j ≤ k1 := by
        rcases HL2.out.2 with ⟨he, h0⟩ | ⟨b, o, cap, cur, he, _, hcap, _⟩
        · rw [HOV1.out] at he
          injection he with e1 e2 e3
          exact .inl ⟨e1, by rw [← HST.out, h0], e3⟩
        · rw [HOV1.out] at he
          injection he with e1 e2 e3
          exact .inr ⟨b, o, e1, by rw [← HST.out, e3]; exact hcap⟩
      rcases hcase.out with hw0 | ⟨hw0, hfull⟩
      · subst hw0
        clear hcase
        rcases hov with ⟨rfl, h0, rfl⟩ | ⟨b, o, rfl, hck⟩
        · obtain rfl : so = 0 := by omega
          obtain rfl : j = 0 := by omega
          clear h0
          go_wp2_with fail
          go_quiet (fail)
          have HS1 : Hid (ShipAt (wr.drewN nq) B pb ov1 wv1 s.filled) := by rw [HFE.out (by trivial)]; exact HS.out
          have HI1 : ItemsAt anyN (wr.drewN nq) ov1 (s.fillN 0).out := HS.out.2.2.1
          have HTo := Lib.hid (told_any anyN (.slice none 0 0) s.news (wr.drewN nq) (HTI.out _ HI1 _ (.inl ⟨HOV1.out.trans (by rw [HST.out]), rfl, rfl, rfl⟩)) HNL.out.1 HNL.out.2)
          clear HI1
          go_wp2_with fail
          (with_reducible refine HTo.out.mono ?_)
          rintro e w2 ⟨v, rfl, hT⟩
          have HE := Lib.hid (HE0.out _ v w2 HS1.out (HM.out.drewN nq) hT)
          clear hT
          go_wp2
          go_ret
          exact HE.out
        · by_cases hn : so + j = 0
          · obtain rfl : so = 0 := by omega
            obtain rfl : j = 0 := by omega
            clear hn
            by_cases hk : k1 = 0
            · subst k1
              go_wp2_with fail
              go_quiet (fail)
              have HS1 : Hid (ShipAt (wr.drewN nq) B pb ov1 wv1 s.filled) := by rw [HFE.out (by trivial)]; exact HS.out
              have HI1 : ItemsAt anyN (wr.drewN nq) ov1 (s.fillN 0).out := HS.out.2.2.1
              have HTo := Lib.hid (told_any anyN (.slice (some ⟨b, o, none⟩) 0 0) s.news (wr.drewN nq) (HTI.out _ HI1 _ (.inr ⟨b, o, HOV1.out.trans (by rw [HST.out]), rfl⟩)) HNL.out.1 HNL.out.2)
              clear HI1
              go_wp2_with fail
              (with_reducible refine HTo.out.mono ?_)
              rintro e w2 ⟨v, rfl, hT⟩
              have HE := Lib.hid (HE0.out _ v w2 HS1.out (HM.out.drewN nq) hT)
              clear hT
              go_wp2
              go_ret
              exact HE.out
            · have hk' : ¬ 0 = k1 := fun e => hk e.symm
              go_wp2_with fail
              go_quiet (fail)
              have HS1 : Hid (ShipAt (wr.drewN nq) B pb ov1 wv1 s.filled) := by rw [HFE.out (by trivial)]; exact HS.out
              have HI1 : ItemsAt anyN (wr.drewN nq) ov1 (s.fillN 0).out := HS.out.2.2.1
              have HTo := Lib.hid (told_any anyN (.slice (some ⟨b, o, none⟩) 0 k1) s.news (wr.drewN nq) (HTI.out _ HI1 _ (.inr ⟨b, o, HOV1.out.trans (by rw [HST.out]), by rw [if_neg hk]; rfl⟩)) HNL.out.1 HNL.out.2)
              clear HI1
              go_wp2_with fail
              (with_reducible refine HTo.out.mono ?_)
              rintro e w2 ⟨v, rfl, hT⟩
              have HE := Lib.hid (HE0.out _ v w2 HS1.out (HM.out.drewN nq) hT)
              clear hT
              go_wp2
              go_ret
              exact HE.out
          · by_cases hk : k1 = so
            · obtain rfl : j = 0 := by omega
              subst k1
              have tn : decide (0 < so) = true := decide_eq_true (by omega)
              have tn1 : decide ((0 : Int) < (so : Int)) = true := decide_eq_true (by omega)
              have hso0 : (0 : Int) ≤ (so : Int) := by omega
              have HNE : Hid (¬ so + 0 = 0) := hn
              clear hn
              go_wp2_with fail
              go_quiet (fail)
              have HSq : Hid (ShipAt (wr.drewN nq) B pb ov1 wv1 (s.fillN 0)) := HS.out
              go_wp2_with fail
              refine (HPACE.out (wr.drewN nq) HSq.out.2.1).mono ?_
              rintro e w1 ⟨rfl, hp, hm⟩
              have HS1 : Hid (ShipAt w1 B pb ov1 wv1 s.filled) := by rw [HFS.out (by have := HNE.out; omega)]; exact HSq.out.pace hp hm
              have HM1 : Hid (Mod (Foot B pb ov wv) w w1) := (HM.out.drewN nq).trans' hm (fun i _ e => .inr (.inl e))
              have HI1 : ItemsAt anyN w1 ov1 (s.fillN 0).out := (HSq.out.pace hp hm).2.2.1
              have c3w : w1.cell? ⟨B, 3, none⟩ = some (.slice (some ⟨b, o, none⟩) so so) := by rw [blk_cell HS1.out.1 3, HOV1.out, HST.out]; rfl
              clear hp hm
              have HTo := Lib.hid (told_any anyN (.slice (some ⟨b, o, none⟩) 0 0) s.news w1 (HTI.out _ HI1 _ (.inr ⟨b, o, HOV1.out.trans (by rw [HST.out]), by rw [if_pos rfl, Nat.sub_self]⟩)) HNL.out.1 HNL.out.2)
              clear HI1
              go_wp2_with fail
              (with_reducible refine HTo.out.mono ?_)
              rintro e w2 ⟨v, rfl, hT⟩
              have HE := Lib.hid (HE0.out _ v w2 HS1.out HM1.out hT)
              clear hT
              go_wp2
              go_ret
              exact HE.out
            · have tn : decide (0 < so + j) = true := decide_eq_true (by omega)
              have tn1 : decide ((0 : Int) < (so : Int) + (j : Int)) = true := decide_eq_true (by omega)
              have hso1 : (so : Int) ≤ (so : Int) + (j : Int) := by omega
              have hso0 : (0 : Int) ≤ (so : Int) := by omega
              go_wp2_with fail
              go_quiet (fail)
              have HSq : Hid (ShipAt (wr.drewN nq) B pb ov1 wv1 (s.fillN j)) := HS.out
              go_wp2_with fail
              refine (HPACE.out (wr.drewN nq) HSq.out.2.1).mono ?_
              rintro e w1 ⟨rfl, hp, hm⟩
              have HS1 : Hid (ShipAt w1 B pb ov1 wv1 s.filled) := by rw [HFS.out (by omega)]; exact HSq.out.pace hp hm
              have HM1 : Hid (Mod (Foot B pb ov wv) w w1) := (HM.out.drewN nq).trans' hm (fun i _ e => .inr (.inl e))
              have HI1 : ItemsAt anyN w1 ov1 (s.fillN j).out := (HSq.out.pace hp hm).2.2.1
              have c3w : w1.cell? ⟨B, 3, none⟩ = some (.slice (some ⟨b, o, none⟩) (so + j) k1) := by rw [blk_cell HS1.out.1 3, HOV1.out, HST.out]; rfl
              clear hp hm
              have HTo := Lib.hid (told_any anyN (.slice (some ⟨b, o + so * 2, none⟩) j (k1 - so)) s.news w1 (HTI.out _ HI1 _ (.inr ⟨b, o, HOV1.out.trans (by rw [HST.out]), by rw [if_neg hk]⟩)) HNL.out.1 HNL.out.2)
              clear HI1
              go_wp2_with fail
              (with_reducible refine HTo.out.mono ?_)
              rintro e w2 ⟨v, rfl, hT⟩
              have HE := Lib.hid (HE0.out _ v w2 HS1.out HM1.out hT)
              clear hT
              go_wp2
              go_ret
              exact HE.out
      · obtain ⟨m, rfl⟩ : ∃ m, wl = m + 1 := ⟨wl - 1, by omega⟩
        have t1 : decide ((0 : Int) < (m : Int) + 1) = true := decide_eq_true (by omega)
        have HFU : Hid (s.win ≤ so + j) := hfull
        clear hcase hw0 hfull
        have t2 : decide (so + j < s.win) = false := decide_eq_false (by have := HFU.out; omega)
        have t3 : decide ((so : Int) + (j : Int) < s.win) = false := decide_eq_false (by have := HFU.out; omega)
        rcases hov with ⟨rfl, h0, rfl⟩ | ⟨b, o, rfl, hck⟩
        · obtain rfl : so = 0 := by omega
          obtain rfl : j = 0 := by omega
          clear h0
          go_wp2_with fail
          go_quiet (fail)
          have HS1 : Hid (ShipAt (wr.drewN nq) B pb ov1 wv1 s.filled) := by rw [HFE.out (by trivial)]; exact HS.out
          have HI1 : ItemsAt anyN (wr.drewN nq) ov1 (s.fillN 0).out := HS.out.2.2.1
          have HTo := Lib.hid (told_any anyN (.slice none 0 0) s.news (wr.drewN nq) (HTI.out _ HI1 _ (.inl ⟨HOV1.out.trans (by rw [HST.out]), rfl, rfl, rfl⟩)) HNL.out.1 HNL.out.2)
          clear HI1
          go_wp2_with fail
          (with_reducible refine HTo.out.mono ?_)
          rintro e w2 ⟨v, rfl, hT⟩
          have HE := Lib.hid (HE0.out _ v w2 HS1.out (HM.out.drewN nq) hT)
          clear hT
          go_wp2
          go_ret
          exact HE.out
        · by_cases hn : so + j = 0
          · obtain rfl : so = 0 := by omega
            obtain rfl : j = 0 := by omega
            clear hn
            by_cases hk : k1 = 0
            · subst k1
              go_wp2_with fail
              go_quiet (fail)
              have HS1 : Hid (ShipAt (wr.drewN nq) B pb ov1 wv1 s.filled) := by rw [HFE.out (by trivial)]; exact HS.out
              have HI1 : ItemsAt anyN (wr.drewN nq) ov1 (s.fillN 0).out := HS.out.2.2.1
              have HTo := Lib.hid (told_any anyN (.slice (some ⟨b, o, none⟩) 0 0) s.news (wr.drewN nq) (HTI.out _ HI1 _ (.inr ⟨b, o, HOV1.out.trans (by rw [HST.out]), rfl⟩)) HNL.out.1 HNL.out.2)
              clear HI1
              go_wp2_with fail
              (with_reducible refine HTo.out.mono ?_)
              rintro e w2 ⟨v, rfl, hT⟩
              have HE := Lib.hid (HE0.out _ v w2 HS1.out (HM.out.drewN nq) hT)
              clear hT
              go_wp2
              go_ret
              exact HE.out
            · have hk' : ¬ 0 = k1 := fun e => hk e.symm
              go_wp2_with fail
              go_quiet (fail)
              have HS1 : Hid (ShipAt (wr.drewN nq) B pb ov1 wv1 s.filled) := by rw [HFE.out (by trivial)]; exact HS.out
              have HI1 : ItemsAt anyN (wr.drewN nq) ov1 (s.fillN 0).out := HS.out.2.2.1
              have HTo := Lib.hid (told_any anyN (.slice (some ⟨b, o, none⟩) 0 k1) s.news (wr.drewN nq) (HTI.out _ HI1 _ (.inr ⟨b, o, HOV1.out.trans (by rw [HST.out]), by rw [if_neg hk]; rfl⟩)) HNL.out.1 HNL.out.2)
              clear HI1
              go_wp2_with fail
              (with_reducible refine HTo.out.mono ?_)
              rintro e w2 ⟨v, rfl, hT⟩
              have HE := Lib.hid (HE0.out _ v w2 HS1.out (HM.out.drewN nq) hT)
              clear hT
              go_wp2
              go_ret
              exact HE.out
          · by_cases hk : k1 = so
            · obtain rfl : j = 0 := by omega
              subst k1
              have t4 : decide (so < s.win) = false := decide_eq_false (by have := HFU.out; omega)
              have t5 : decide ((so : Int) < s.win) = false := decide_eq_false (by have := HFU.out; omega)
              have tn : decide (0 < so) = true := decide_eq_true (by omega)
              have tn1 : decide ((0 : Int) < (so : Int)) = true := decide_eq_true (by omega)
              have hso0 : (0 : Int) ≤ (so : Int) := by omega
              have HNE : Hid (¬ so + 0 = 0) := hn
              clear hn
              go_wp2_with fail
              go_quiet (fail)
              have HSq : Hid (ShipAt (wr.drewN nq) B pb ov1 wv1 (s.fillN 0)) := HS.out
              go_wp2_with fail
              refine (HPACE.out (wr.drewN nq) HSq.out.2.1).mono ?_
              rintro e w1 ⟨rfl, hp, hm⟩
              have HS1 : Hid (ShipAt w1 B pb ov1 wv1 s.filled) := by rw [HFS.out (by have := HNE.out; omega)]; exact HSq.out.pace hp hm
              have HM1 : Hid (Mod (Foot B pb ov wv) w w1) := (HM.out.drewN nq).trans' hm (fun i _ e => .inr (.inl e))
              have HI1 : ItemsAt anyN w1 ov1 (s.fillN 0).out := (HSq.out.pace hp hm).2.2.1
              have c3w : w1.cell? ⟨B, 3, none⟩ = some (.slice (some ⟨b, o, none⟩) so so) := by rw [blk_cell HS1.out.1 3, HOV1.out, HST.out]; rfl
              clear hp hm
              have HTo := Lib.hid (told_any anyN (.slice (some ⟨b, o, none⟩) 0 0) s.news w1 (HTI.out _ HI1 _ (.inr ⟨b, o, HOV1.out.trans (by rw [HST.out]), by rw [if_pos rfl, Nat.sub_self]⟩)) HNL.out.1 HNL.out.2)
              clear HI1
              go_wp2_with fail
              (with_reducible refine HTo.out.mono ?_)
              rintro e w2 ⟨v, rfl, hT⟩
              have HE := Lib.hid (HE0.out _ v w2 HS1.out HM1.out hT)
              clear hT
              go_wp2
              go_ret
              exact HE.out
            · have tn : decide (0 < so + j) = true := decide_eq_true (by omega)
              have tn1 : decide ((0 : Int) < (so : Int) + (j : Int)) = true := decide_eq_true (by omega)
              have hso1 : (so : Int) ≤ (so : Int) + (j : Int) := by omega
              have hso0 : (0 : Int) ≤ (so : Int) := by omega
              go_wp2_with fail
              go_quiet (fail)
              have HSq : Hid (ShipAt (wr.drewN nq) B pb ov1 wv1 (s.fillN j)) := HS.out
              go_wp2_with fail
              refine (HPACE.out (wr.drewN nq) HSq.out.2.1).mono ?_
              rintro e w1 ⟨rfl, hp, hm⟩
              have HS1 : Hid (ShipAt w1 B pb ov1 wv1 s.filled) := by rw [HFS.out (by omega)]; exact HSq.out.pace hp hm
              have HM1 : Hid (Mod (Foot B pb ov wv) w w1) := (HM.out.drewN nq).trans' hm (fun i _ e => .inr (.inl e))
              have HI1 : ItemsAt anyN w1 ov1 (s.fillN j).out := (HSq.out.pace hp hm).2.2.1
              have c3w : w1.cell? ⟨B, 3, none⟩ = some (.slice (some ⟨b, o, none⟩) (so + j) k1) := by rw [blk_cell HS1.out.1 3, HOV1.out, HST.out]; rfl
              clear hp hm
              have HTo := Lib.hid (told_any anyN (.slice (some ⟨b, o + so * 2, none⟩) j (k1 - so)) s.news w1 (HTI.out _ HI1 _ (.inr ⟨b, o, HOV1.out.trans (by rw [HST.out]), by rw [if_neg hk]⟩)) HNL.out.1 HNL.out.2)
              clear HI1
              go_wp2_with fail
              (with_reducible refine HTo.out.mono ?_)
              rintro e w2 ⟨v, rfl, hT⟩
              have HE := Lib.hid (HE0.out _ v w2 HS1.out HM1.out hT)
              clear hT
              go_wp2
              go_ret
              exact HE.out
end Go.Proofs.Ytcgfbbfepopinaa
