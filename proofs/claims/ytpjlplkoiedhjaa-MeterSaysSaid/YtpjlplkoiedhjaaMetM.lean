/-
  A meter of the call's own; two of them; one number, or none both.
-/
import Derived.Test.YtpjlplkoiedhjaaMetL
import Derived.Test.YtpjlplkoiedhjaaRd
namespace Go.Proofs.Ytpjlplkoiedhjaa
open Go.RowKit Go.Shoal

theorem MAt.keep {S : Nat → Prop} {w w' : World} {g : Nat} {v : Value} {m : Mt} (h : MAt w g v m) (hm : Mod S w w') (hg : ¬ S g) (hv : ∀ b, v.ownBlock = some b → ¬ S b) : MAt w' g v m :=
  ⟨hm.blk h.1 hg, h.2.1.keep fun b hb => hm.block b (RowOf.lt h.2.1 hb) (hv b hb), h.2.2⟩
/-- A meter that the call made. -/
structure SitV (w0 : World) (g : Nat) (v : Value) (m : Mt) (w : World) : Prop where
  here : MAt w g v m
  ok : m.Ok
  own : w0.heap.size ≤ g
  row : ∀ b, v.ownBlock = some b → w0.heap.size ≤ b
  bel : Below w0.heap.size w0 w
def Sit (w0 : World) (g : Nat) (m : Mt) (w : World) : Prop := ∃ v, SitV w0 g v m w
theorem SitV.base {w0 w : World} {g : Nat} {v : Value} {m : Mt} (h : SitV w0 g v m w) : w0.heap.size ≤ w.heap.size := h.bel.size
theorem SitV.drewN {w0 w : World} {g : Nat} {v : Value} {m : Mt} (h : SitV w0 g v m w) (n : Nat) : SitV w0 g v m (w.drewN n) :=
  ⟨h.here, h.ok, h.own, h.row, ⟨h.bel.os, h.bel.tape, h.bel.output, h.bel.size, h.bel.block⟩⟩
theorem Sit.drewN {w0 w : World} {g : Nat} {m : Mt} (h : Sit w0 g m w) (n : Nat) : Sit w0 g m (w.drewN n) := ⟨_, h.choose_spec.drewN n⟩
theorem Sit.bel {w0 w : World} {g : Nat} {m : Mt} (h : Sit w0 g m w) : Below w0.heap.size w0 w := h.choose_spec.bel
theorem Sit.ok {w0 w : World} {g : Nat} {m : Mt} (h : Sit w0 g m w) : m.Ok := h.choose_spec.ok
theorem Sit.new {w0 w1 w2 : World} {e : Ending} (h : Made w1 e w2) (hb : Below w0.heap.size w0 w1) : e = .returned (.pointer (some ⟨w1.heap.size, 0, none⟩)) ∧ Sit w0 w1.heap.size newMt w2 :=
  ⟨h.1, _, h.2.1, newMt_ok, hb.size, fun b e => (by cases e), h.2.2.then_below hb (fun _ x => x.elim) hb.size⟩
theorem SitV.step {w0 w w' : World} {g : Nat} {v : Value} {m m' : Mt} {x : Nat} (h : SitV w0 g v m w) (ha : AddTo m x m') (hx : x < B64) (hs : Step w g v m' w') :
    ∃ v', SitV w0 g v' m' w' ∧ (v'.ownBlock = v.ownBlock ∨ ∀ b, v'.ownBlock = some b → w.heap.size ≤ b) ∧ Mod (fun k => k = g ∨ v.ownBlock = some k) w w' := by
  obtain ⟨v', h1, h2, h3⟩ := hs
  have hb := h.base
  refine ⟨v', ⟨h1, ha.ok h.ok hx, h.own, fun b e => ?_, h3.then_below h.bel (fun i hi => ?_) hb⟩, h2, h3⟩
  · rcases h2 with h2 | h2
    · exact h.row b (h2 ▸ e)
    · exact Nat.le_trans hb (h2 b e)
  · rcases hi with rfl | hi
    · exact h.own
    · exact h.row i hi
def SitAdded (w0 : World) (g : Nat) (m : Mt) (x : Nat) (e : Ending) (w' : World) : Prop := e = .returned (.tuple #[]) ∧ ∃ m', AddTo m x m' ∧ Sit w0 g m' w'
theorem sit_add {w0 w : World} {g : Nat} {m : Mt} {x : Nat} (h : Sit w0 g m w) (hx : x < B64) (hl : m.ks.length ≤ 1000) : Calls Try.prog 10 #[.pointer (some ⟨g, 0, none⟩), .float .f64 x] w (SitAdded w0 g m x) := by
  obtain ⟨v, hv⟩ := h
  refine (add_any g v m x w hv.here hv.ok hx hl).mono fun e w' ⟨he, m', ha, hs⟩ => ?_
  obtain ⟨v', h1, _⟩ := hv.step ha hx hs
  exact ⟨he, m', ha, v', h1⟩
theorem sit_sum {w0 w : World} {g : Nat} {m : Mt} (h : Sit w0 g m w) : Calls Try.prog 17 #[.pointer (some ⟨g, 0, none⟩)] w fun e w' => e = .returned (.float .f64 m.s) ∧ w = w' := by
  obtain ⟨v, hv⟩ := h
  exact sum_any g v m w hv.here
theorem sit_least {w0 w : World} {g : Nat} {m : Mt} (h : Sit w0 g m w) : Calls Try.prog 12 #[.pointer (some ⟨g, 0, none⟩)] w fun e w' => e = .returned (.float .f64 m.le) ∧ w = w' := by
  obtain ⟨v, hv⟩ := h
  exact least_any g v m w hv.here
theorem sit_most {w0 w : World} {g : Nat} {m : Mt} (h : Sit w0 g m w) : Calls Try.prog 13 #[.pointer (some ⟨g, 0, none⟩)] w fun e w' => e = .returned (.float .f64 m.mo) ∧ w = w' := by
  obtain ⟨v, hv⟩ := h
  exact most_any g v m w hv.here
theorem sit_smooth {w0 w : World} {g : Nat} {m : Mt} (h : Sit w0 g m w) : Calls Try.prog 14 #[.pointer (some ⟨g, 0, none⟩)] w fun e w' => e = .returned (.float .f64 m.sm) ∧ w = w' := by
  obtain ⟨v, hv⟩ := h
  exact smooth_any g v m w hv.here
theorem sit_count {w0 w : World} {g : Nat} {m : Mt} (h : Sit w0 g m w) : Calls Try.prog 21 #[.pointer (some ⟨g, 0, none⟩)] w fun e w' => e = .returned (.tuple #[.int .i64 (m.ks.length : Int), .int .i64 (m.n : Int), .int .i64 (m.f : Int)]) ∧ ∃ n, w' = w.drewN n := by
  obtain ⟨v, hv⟩ := h
  exact count_any g v m w hv.here
theorem sit_mean {w0 w : World} {g : Nat} {m : Mt} (h : Sit w0 g m w) : Calls Try.prog 16 #[.pointer (some ⟨g, 0, none⟩)] w (Told w (MeanOf m)) := by
  obtain ⟨v, hv⟩ := h
  exact mean_any g v m w hv.here
theorem sit_rank {w0 w : World} {g : Nat} {m : Mt} (h : Sit w0 g m w) (x : Nat) (hx : x < B64) (hl : m.ks.length ≤ 1000000) : Calls Try.prog 15 #[.pointer (some ⟨g, 0, none⟩), .float .f64 x] w fun e w' => e = .returned (.int .i64 (rank m.ks (fkey x) : Int)) ∧ ∃ n, w' = w.drewN n := by
  obtain ⟨v, hv⟩ := h
  exact rank_any g v m x w hv.here hv.ok hx hl
/-- Two meters that the call made. -/
structure TwoV (w0 : World) (ga : Nat) (va : Value) (ma : Mt) (gb : Nat) (vb : Value) (mb : Mt) (w : World) : Prop where
  a : SitV w0 ga va ma w
  b : SitV w0 gb vb mb w
  ne : ga ≠ gb
  ab : va.ownBlock ≠ some gb
  ba : vb.ownBlock ≠ some ga
  rows : ∀ k, va.ownBlock = some k → vb.ownBlock ≠ some k
def Two (w0 : World) (ga : Nat) (ma : Mt) (gb : Nat) (mb : Mt) (w : World) : Prop := ∃ va vb, TwoV w0 ga va ma gb vb mb w
theorem Two.swap {w0 w : World} {ga gb : Nat} {ma mb : Mt} (h : Two w0 ga ma gb mb w) : Two w0 gb mb ga ma w := by
  obtain ⟨va, vb, h⟩ := h
  exact ⟨vb, va, h.b, h.a, fun e => h.ne e.symm, h.ba, h.ab, fun k e e' => h.rows k e' e⟩
theorem Two.fst {w0 w : World} {ga gb : Nat} {ma mb : Mt} (h : Two w0 ga ma gb mb w) : Sit w0 ga ma w := by
  obtain ⟨va, vb, h⟩ := h
  exact ⟨va, h.a⟩
theorem Two.snd {w0 w : World} {ga gb : Nat} {ma mb : Mt} (h : Two w0 ga ma gb mb w) : Sit w0 gb mb w := h.swap.fst
theorem Two.drewN {w0 w : World} {ga gb : Nat} {ma mb : Mt} (h : Two w0 ga ma gb mb w) (n : Nat) : Two w0 ga ma gb mb (w.drewN n) := by
  obtain ⟨va, vb, h⟩ := h
  exact ⟨va, vb, h.a.drewN n, h.b.drewN n, h.ne, h.ab, h.ba, h.rows⟩
theorem Two.new {w0 w1 w2 w3 : World} {e e' : Ending} (h : Made w1 e w2) (h' : Made w2 e' w3) (hb : Below w0.heap.size w0 w1) : e = .returned (.pointer (some ⟨w1.heap.size, 0, none⟩)) ∧ e' = .returned (.pointer (some ⟨w2.heap.size, 0, none⟩)) ∧ Two w0 w1.heap.size newMt w2.heap.size newMt w3 := by
  have b2 := h.2.2.then_below hb (fun _ x => x.elim) hb.size
  have b3 := h'.2.2.then_below b2 (fun _ x => x.elim) b2.size
  refine ⟨h.1, h'.1, _, _, ⟨h.2.1.keep h'.2.2 (fun x => x) (fun _ _ x => x), newMt_ok, hb.size, fun b e => (by cases e), b3⟩, ⟨h'.2.1, newMt_ok, b2.size, fun b e => (by cases e), b3⟩, ?_, (fun e => by cases e), (fun e => by cases e), (fun k e => by cases e)⟩
  have := blk_lt h.2.1.1
  omega
def TwoAdded (w0 : World) (ga : Nat) (ma : Mt) (gb : Nat) (mb : Mt) (x : Nat) (e : Ending) (w' : World) : Prop := e = .returned (.tuple #[]) ∧ ∃ m', AddTo ma x m' ∧ Two w0 ga m' gb mb w'
theorem two_add {w0 w : World} {ga gb : Nat} {ma mb : Mt} {x : Nat} (h : Two w0 ga ma gb mb w) (hx : x < B64) (hl : ma.ks.length ≤ 1000) : Calls Try.prog 10 #[.pointer (some ⟨ga, 0, none⟩), .float .f64 x] w (TwoAdded w0 ga ma gb mb x) := by
  obtain ⟨va, vb, h⟩ := h
  refine (add_any ga va ma x w h.a.here h.a.ok hx hl).mono fun e w' ⟨he, m', ha, hs⟩ => ?_
  obtain ⟨v', h1, h2, h3⟩ := h.a.step ha hx hs
  have hgb := blk_lt h.b.here.1
  have hvb : ∀ b, vb.ownBlock = some b → b < w.heap.size := fun b hb => RowOf.lt h.b.here.2.1 hb
  have kb : MAt w' gb vb mb := h.b.here.keep h3 (fun e => by
    rcases e with e | e
    · exact h.ne e.symm
    · exact h.ab e) (fun b hb e => by
    rcases e with rfl | e
    · exact h.ba hb
    · exact h.rows b e hb)
  refine ⟨he, m', ha, v', vb, h1, ⟨kb, h.b.ok, h.b.own, h.b.row, h1.bel⟩, h.ne, fun e => ?_, h.ba, fun k e e' => ?_⟩
  · rcases h2 with h2 | h2
    · exact h.ab (h2 ▸ e)
    · have := h2 _ e; omega
  · rcases h2 with h2 | h2
    · exact h.rows k (h2 ▸ e) e'
    · have := h2 _ e
      have := hvb k e'
      omega
def TwoAdded' (w0 : World) (ga : Nat) (ma : Mt) (gb : Nat) (mb : Mt) (x : Nat) (e : Ending) (w' : World) : Prop := e = .returned (.tuple #[]) ∧ ∃ m', AddTo mb x m' ∧ Two w0 ga ma gb m' w'
theorem two_add' {w0 w : World} {ga gb : Nat} {ma mb : Mt} {x : Nat} (h : Two w0 ga ma gb mb w) (hx : x < B64) (hl : mb.ks.length ≤ 1000) : Calls Try.prog 10 #[.pointer (some ⟨gb, 0, none⟩), .float .f64 x] w (TwoAdded' w0 ga ma gb mb x) :=
  (two_add h.swap hx hl).mono fun _ _ ⟨he, m', ha, hs⟩ => ⟨he, m', ha, hs.swap⟩
/-! One number, or none both. -/
def SameN (a b : Nat) : Prop := a = b ∨ (isN a = true ∧ isN b = true)
theorem SameN.refl (a : Nat) : SameN a a := .inl rfl
theorem SameN.b {a b : Nat} (h : SameN a b) : sameB a b = true := by
  unfold sameB
  rcases h with rfl | ⟨h1, h2⟩
  · simp
  · simp [h1, h2]
theorem bits_nan {op : BinOp} (hop : IsOp op) {x y : Nat} (h : isN x = true ∨ isN y = true) : floatBits op .f64 x y = none := by
  rcases h with h | h
  · obtain ⟨s, t, e⟩ := read_nan h
    rcases hop with rfl | rfl | rfl
    · show ((Ieee.double.read x).sum (Ieee.double.read y)).map Ieee.double.write = none
      rw [e]; cases Ieee.double.read y <;> rfl
    · show ((Ieee.double.read x).sum (Ieee.double.read y).opposite).map Ieee.double.write = none
      rw [e]; cases Ieee.double.read y <;> rfl
    · show ((Ieee.double.read x).quotient 54 (Ieee.double.read y)).map Ieee.double.write = none
      rw [e]; cases Ieee.double.read y <;> rfl
  · obtain ⟨s, t, e⟩ := read_nan h
    rcases hop with rfl | rfl | rfl
    · show ((Ieee.double.read x).sum (Ieee.double.read y)).map Ieee.double.write = none
      rw [e]; cases Ieee.double.read x <;> rfl
    · show ((Ieee.double.read x).sum (Ieee.double.read y).opposite).map Ieee.double.write = none
      rw [e]; cases Ieee.double.read x <;> rfl
    · show ((Ieee.double.read x).quotient 54 (Ieee.double.read y)).map Ieee.double.write = none
      rw [e]; cases Ieee.double.read x <;> rfl
theorem arith_nan {op : BinOp} (hop : IsOp op) {x y r : Nat} (h : Arith op x y r) (hn : isN x = true ∨ isN y = true) : isN r = true := by
  rcases h.2 with h1 | ⟨_, h1⟩
  · rw [bits_nan hop hn] at h1; cases h1
  · exact h1
theorem arith_same {op : BinOp} (hop : IsOp op) {x y r x' y' r' : Nat} (h : Arith op x y r) (h' : Arith op x' y' r') (hx : SameN x x') (hy : SameN y y') : SameN r r' := by
  rcases hx with rfl | ⟨h1, h2⟩
  · rcases hy with rfl | ⟨h1, h2⟩
    · rcases h.2 with k | ⟨k, k2⟩
      · rcases h'.2 with j | ⟨j, j2⟩
        · rw [k] at j; exact .inl (Option.some.inj j)
        · rw [k] at j; cases j
      · rcases h'.2 with j | ⟨j, j2⟩
        · rw [k] at j; cases j
        · exact .inr ⟨k2, j2⟩
    · exact .inr ⟨arith_nan hop h (.inr h1), arith_nan hop h' (.inr h2)⟩
  · exact .inr ⟨arith_nan hop h (.inl h1), arith_nan hop h' (.inl h2)⟩
/-- Two meters that tell the same but for how many there were. -/
structure Alike (a b : Mt) : Prop where
  n : b.n = a.n
  f : b.f = a.f
  s : SameN a.s b.s
  sm : SameN a.sm b.sm
  le : b.le = a.le
  mo : b.mo = a.mo
theorem Alike.refl (a : Mt) : Alike a a := ⟨rfl, rfl, .refl _, .refl _, rfl, rfl⟩
theorem Alike.nan {a b b' : Mt} {x : Nat} (h : Alike a b) (hb : AddTo b x b') (hx : isN x = true) : Alike a b' := by
  obtain ⟨_, ⟨_, e1, e2, e3, e4, e5, e6⟩ | ⟨h1, _⟩⟩ := hb
  · exact ⟨e1.trans h.n, e2.trans h.f, e3 ▸ h.s, e4 ▸ h.sm, e5.trans h.le, e6.trans h.mo⟩
  · rw [hx] at h1; cases h1
theorem Alike.add {a b a' b' : Mt} {x : Nat} (h : Alike a b) (ha : AddTo a x a') (hb : AddTo b x b') : Alike a' b' := by
  obtain ⟨_, ⟨p1, p2, p3, p4, p5, p6, p7⟩ | ⟨p1, p2, p3, p4, p5, pc⟩⟩ := ha <;> obtain ⟨_, ⟨q1, q2, q3, q4, q5, q6, q7⟩ | ⟨q1, q2, q3, q4, q5, qc⟩⟩ := hb
  · exact ⟨by rw [p2, q2, h.n], by rw [p3, q3, h.f], by rw [p4, q4]; exact h.s, by rw [p5, q5]; exact h.sm, by rw [p6, q6, h.le], by rw [p7, q7, h.mo]⟩
  · rw [p1] at q1; cases q1
  · rw [p1] at q1; cases q1
  · have hs := arith_same (.inl rfl) p3 q3 h.s (.refl x)
    have hle : b'.le = a'.le := by rw [p4, q4, h.le]
    have hmo : b'.mo = a'.mo := by rw [p5, q5, h.mo]
    rcases pc with ⟨i1, i2, i3⟩ | ⟨i1, i2, i3⟩ <;> rcases qc with ⟨j1, j2, j3⟩ | ⟨j1, j2, j3⟩
    · exact ⟨by rw [p2, q2, h.n], by rw [i2, j2, h.f], hs, by rw [i3, j3]; exact h.sm, hle, hmo⟩
    · rw [i1] at j1; cases j1
    · rw [i1] at j1; cases j1
    · refine ⟨by rw [p2, q2, h.n], by rw [i2, j2, h.f], hs, ?_, hle, hmo⟩
      rcases i3 with ⟨k1, k2⟩ | ⟨k1, d, q, k2, k3, k4⟩ <;> rcases j3 with ⟨l1, l2⟩ | ⟨l1, d', q', l2, l3, l4⟩
      · rw [k2, l2]; exact .refl _
      · have := h.f; omega
      · have := h.f; omega
      · exact arith_same (.inl rfl) k4 l4 h.sm (arith_same (.inr (.inr rfl)) k3 l3 (arith_same (.inr (.inl rfl)) k2 l2 (.refl x) h.sm) (.refl _))
theorem Alike.mean {a b : Mt} {r r' : Nat} (h : Alike a b) (ha : MeanOf a r) (hb : MeanOf b r') : SameN r r' := by
  have hn := h.n
  rcases ha with ⟨h1, h2⟩ | ⟨h1, h2⟩ <;> rcases hb with ⟨k1, k2⟩ | ⟨k1, k2⟩
  · rw [h2, k2]; exact .refl _
  · omega
  · omega
  · exact arith_same (.inr (.inr rfl)) h2 k2 h.s (by rw [hn]; exact .refl _)
theorem AddTo.len {m m' : Mt} {x : Nat} (h : AddTo m x m') : m'.ks.length = m.ks.length + 1 := by rw [h.1]; exact ins_len _ _
end Go.Proofs.Ytpjlplkoiedhjaa
